-- Written by gprint.py (this session's own run of the printer, with given contracts).
import Derived.Test.YteleheamnighkaaDoorPDBlockx0
namespace Go.Proofs.YteleheamnighkaaDoor.PDBlock
open Go.RowKit Go.Proofs.YteleheamnighkaaDoorW.PrintWords Go.Proofs.YteleheamnighkaaDoorW.PrintLast Go.Proofs.YteleheamnighkaaDoorW.PrintMore
attribute [local go_sem] max2_int min2_int max_two min_two max_three min_three max_four min_four   -- for this text's walks alone
set_option linter.unusedVariables false
set_option linter.unusedSimpArgs false

/-! ### planispherelaw01_DigestBlock: function 6 -/
def planispherelaw01_DigestBlock.j0 : Nat → ByteArray → ByteArray → ByteArray → Bool → Int → Int → Bool → Option (Bool)
  | 0, _, _, _, _, _, _, _ => none
  | k + 1, x0, x2, x3, x9, x10, x11, x36 => if x36 = true then (some x9) else (if 0 ≤ (mn (wrap64 (x11 + x10)) (x0.size : Int)) then (if (mn (wrap64 (x11 + x10)) (x0.size : Int)) ≤ (x0.size : Int) then (if x9 = true then (if 0 ≤ x11 then (if x11 ≤ (x0.size : Int) then (if (x0.extract 0 (x11 : Int).toNat).size + x2.size ≤ 9223372036854775807 then (if ((x0.extract 0 (x11 : Int).toNat) ++ x2).size + (x0.extract ((mn (wrap64 (x11 + x10)) (x0.size : Int)) : Int).toNat x0.size).size ≤ 9223372036854775807 then ((digest_Sum.f (((x0.extract 0 (x11 : Int).toNat) ++ x2) ++ (x0.extract ((mn (wrap64 (x11 + x10)) (x0.size : Int)) : Int).toNat x0.size))).bind fun t102 => (if (x0.extract 0 (x11 : Int).toNat).size + x3.size ≤ 9223372036854775807 then (if ((x0.extract 0 (x11 : Int).toNat) ++ x3).size + (x0.extract ((mn (wrap64 (x11 + x10)) (x0.size : Int)) : Int).toNat x0.size).size ≤ 9223372036854775807 then ((digest_Sum.f (((x0.extract 0 (x11 : Int).toNat) ++ x3) ++ (x0.extract ((mn (wrap64 (x11 + x10)) (x0.size : Int)) : Int).toNat x0.size))).bind fun t103 => (some ((t102.toList == t103.toList) == (x2.toList == x3.toList)))) else (none)) else (none))) else (none)) else (none)) else (none)) else (none)) else (some false)) else (none)) else (none))
def planispherelaw01_DigestBlock.f (k : Nat) (a0 : ByteArray) (a1 : Int) (a2 : ByteArray) (a3 : ByteArray) : Option (Bool) := (planispherelaw01_head.f).bind fun t101 => (if 0 ≤ (mn (mn (a2.size : Int) (a3.size : Int)) 8) then (if (mn (mn (a2.size : Int) (a3.size : Int)) 8) ≤ (a2.size : Int) then (if (mn (mn (a2.size : Int) (a3.size : Int)) 8) ≤ (a3.size : Int) then (if (a0.size : Int) > 2000 then (planispherelaw01_DigestBlock.j0 k a0 (a2.extract 0 ((mn (mn (a2.size : Int) (a3.size : Int)) 8) : Int).toNat) (a3.extract 0 ((mn (mn (a2.size : Int) (a3.size : Int)) 8) : Int).toNat) t101 (mn (mn (a2.size : Int) (a3.size : Int)) 8) (wrap64 (8 * (wrap64 (a1)))) true) else (planispherelaw01_DigestBlock.j0 k a0 (a2.extract 0 ((mn (mn (a2.size : Int) (a3.size : Int)) 8) : Int).toNat) (a3.extract 0 ((mn (mn (a2.size : Int) (a3.size : Int)) 8) : Int).toNat) t101 (mn (mn (a2.size : Int) (a3.size : Int)) 8) (wrap64 (8 * (wrap64 (a1)))) (decide ((wrap64 (8 * (wrap64 (a1)))) > (a0.size : Int))))) else (none)) else (none)) else (none))
theorem planispherelaw01_DigestBlock.mono_l : ∀ k, (∀ y0 y1 y2 y3 y4 y5 y6, LeO (planispherelaw01_DigestBlock.j0 k y0 y1 y2 y3 y4 y5 y6) (planispherelaw01_DigestBlock.j0 (k + 1) y0 y1 y2 y3 y4 y5 y6))
  | 0 => fun _ _ _ _ _ _ _ r h => by simp [planispherelaw01_DigestBlock.j0] at h
  | k + 1 => by
    have ih0 := planispherelaw01_DigestBlock.mono_l k
    · intro y0 y1 y2 y3 y4 y5 y6
      unfold planispherelaw01_DigestBlock.j0
      repeat' first
      | (with_reducible exact ih0 _ _ _ _ _ _ _)
      | (with_reducible exact LeO.refl _)
      | (with_reducible exact LeO.none _)
      | (with_reducible refine LeO.ite ?_ ?_)
      | (with_reducible refine LeO.bind ?_ (fun _ => ?_))
      | exact ih0 _ _ _ _ _ _ _
      | exact LeO.none _
      | refine LeO.ite ?_ ?_
      | refine LeO.bind ?_ (fun _ => ?_)
theorem planispherelaw01_DigestBlock.mono : ∀ a0 a1 a2 a3 k, LeO (planispherelaw01_DigestBlock.f k a0 a1 a2 a3) (planispherelaw01_DigestBlock.f (k + 1) a0 a1 a2 a3) := by
  intro a0 a1 a2 a3 k
  have ih0 := planispherelaw01_DigestBlock.mono_l k
  unfold planispherelaw01_DigestBlock.f
  repeat' first
      | (with_reducible exact ih0 _ _ _ _ _ _ _)
      | (with_reducible exact LeO.refl _)
      | (with_reducible exact LeO.none _)
      | (with_reducible refine LeO.ite ?_ ?_)
      | (with_reducible refine LeO.bind ?_ (fun _ => ?_))
      | exact ih0 _ _ _ _ _ _ _
      | exact LeO.none _
      | refine LeO.ite ?_ ?_
      | refine LeO.bind ?_ (fun _ => ?_)
def planispherelaw01_DigestBlock.T9 : Bool × List (List Nat × List Nat) := (true, [([], []), ([0], [0]), ([1], [1]), ([1], [1]), ([2, 3, 1], [1, 2, 3]), ([1], [1]), ([4, 5, 1], [1, 4, 5]), ([1], [1]), ([6, 7, 1], [1, 6, 7]), ([8, 1, 1], [1, 8]), ([1], [1]), ([1], [1]), ([10, 11, 1], [1, 10, 11]), ([1], [1]), ([12, 13, 1], [1, 12, 13]), ([1], [1]), ([14, 15, 1], [1, 14, 15]), ([16, 9, 1], [1, 16]), ([9, 17, 1], [1, 9, 17]), ([1], [1]), ([1], [1]), ([19, 20, 1], [1, 19, 20]), ([18, 21, 1], [1, 18, 21]), ([1, 22], [1, 22]), ([23, 17, 0, 1, 2, 3, 4, 5, 6, 7, 8, 9, 10, 11, 12, 13, 14, 15, 16, 17, 18, 19, 20, 21, 22, 23], [23])])
def planispherelaw01_DigestBlock.B9 : List Nat := [0, 1, 3, 3, 15, 3, 63, 3, 255, 511, 3, 3, 3075, 3, 15363, 3, 64515, 131071, 262143, 3, 3, 1572867, 4194303, 8388607, 16777215]
theorem planispherelaw01_DigestBlock.tab9 : rtab .any (opsOf Tryd.f6 9) = planispherelaw01_DigestBlock.T9 := by kernel_rfl
theorem planispherelaw01_DigestBlock.bits9 : waitsOk planispherelaw01_DigestBlock.T9.2 planispherelaw01_DigestBlock.B9 = true := by kernel_rfl
set_option maxHeartbeats 8000000 in
set_option maxRecDepth 100000 in
theorem planispherelaw01_DigestBlock.calls (k : Nat) (a0 : ByteArray) (a1 : Int) (a2 : ByteArray) (a3 : ByteArray) (r : Bool) (w : World) (h : planispherelaw01_DigestBlock.f k a0 a1 a2 a3 = some r) (hG : Glob w) :
    Calls Tryd.prog 6 #[.string a0, .int .u8 a1, .string a2, .string a3] w fun e w' => e = .returned (.bool r) ∧ Below w.heap.size w w' := by
  have HG_ := Aside0.mk hG
  clear hG
  have HB := Aside0.mk (Below.refl w.heap.size w)
  have H : ((planispherelaw01_head.f).bind fun t101 => (if 0 ≤ (mn (mn (a2.size : Int) (a3.size : Int)) 8) then (if (mn (mn (a2.size : Int) (a3.size : Int)) 8) ≤ (a2.size : Int) then (if (mn (mn (a2.size : Int) (a3.size : Int)) 8) ≤ (a3.size : Int) then (if (a0.size : Int) > 2000 then (planispherelaw01_DigestBlock.j0 k a0 (a2.extract 0 ((mn (mn (a2.size : Int) (a3.size : Int)) 8) : Int).toNat) (a3.extract 0 ((mn (mn (a2.size : Int) (a3.size : Int)) 8) : Int).toNat) t101 (mn (mn (a2.size : Int) (a3.size : Int)) 8) (wrap64 (8 * (wrap64 (a1)))) true) else (planispherelaw01_DigestBlock.j0 k a0 (a2.extract 0 ((mn (mn (a2.size : Int) (a3.size : Int)) 8) : Int).toNat) (a3.extract 0 ((mn (mn (a2.size : Int) (a3.size : Int)) 8) : Int).toNat) t101 (mn (mn (a2.size : Int) (a3.size : Int)) 8) (wrap64 (8 * (wrap64 (a1)))) (decide ((wrap64 (8 * (wrap64 (a1)))) > (a0.size : Int))))) else (none)) else (none)) else (none))) = some r := h
  clear h
  replace H := Option.bind_eq_some_iff.mp H
  obtain ⟨t101, A50, H⟩ := H
  replace H : (if 0 ≤ (mn (mn (a2.size : Int) (a3.size : Int)) 8) then (if (mn (mn (a2.size : Int) (a3.size : Int)) 8) ≤ (a2.size : Int) then (if (mn (mn (a2.size : Int) (a3.size : Int)) 8) ≤ (a3.size : Int) then (if (a0.size : Int) > 2000 then (planispherelaw01_DigestBlock.j0 k a0 (a2.extract 0 ((mn (mn (a2.size : Int) (a3.size : Int)) 8) : Int).toNat) (a3.extract 0 ((mn (mn (a2.size : Int) (a3.size : Int)) 8) : Int).toNat) t101 (mn (mn (a2.size : Int) (a3.size : Int)) 8) (wrap64 (8 * (wrap64 (a1)))) true) else (planispherelaw01_DigestBlock.j0 k a0 (a2.extract 0 ((mn (mn (a2.size : Int) (a3.size : Int)) 8) : Int).toNat) (a3.extract 0 ((mn (mn (a2.size : Int) (a3.size : Int)) 8) : Int).toNat) t101 (mn (mn (a2.size : Int) (a3.size : Int)) 8) (wrap64 (8 * (wrap64 (a1)))) (decide ((wrap64 (8 * (wrap64 (a1)))) > (a0.size : Int))))) else (none)) else (none)) else (none)) = some r := H
  have A5 := Aside0.mk A50
  clear A50
  obtain ⟨ji6, hji6⟩ : ∃ j_ : Int, (mn (a2.size : Int) (a3.size : Int)) = j_ := ⟨_, rfl⟩
  replace H : (if 0 ≤ (mn (ji6) 8) then (if (mn (ji6) 8) ≤ (a2.size : Int) then (if (mn (ji6) 8) ≤ (a3.size : Int) then (if (a0.size : Int) > 2000 then (planispherelaw01_DigestBlock.j0 k a0 (a2.extract 0 ((mn (ji6) 8) : Int).toNat) (a3.extract 0 ((mn (ji6) 8) : Int).toNat) t101 (mn (ji6) 8) (wrap64 (8 * (wrap64 (a1)))) true) else (planispherelaw01_DigestBlock.j0 k a0 (a2.extract 0 ((mn (ji6) 8) : Int).toNat) (a3.extract 0 ((mn (ji6) 8) : Int).toNat) t101 (mn (ji6) 8) (wrap64 (8 * (wrap64 (a1)))) (decide ((wrap64 (8 * (wrap64 (a1)))) > (a0.size : Int))))) else (none)) else (none)) else (none)) = some r := by first | (rw [hji6] at H; exact H) | (simp only [hji6] at H ⊢; exact H)
  (try rw [hji6] at A5)
  (try (have hji6l : 0 ≤ ji6 := by (rw [← hji6]; unfold mn; (repeat' split) <;> omega)))
  (try (have hji6m : 0 ≤ ji6 := by omega))
  have hji6_ : (if (a3.size : Int) < (a2.size : Int) then (a3.size : Int) else (a2.size : Int)) = ji6 := hji6
  have hji6n : (if a3.size < a2.size then (a3.size : Int) else (a2.size : Int)) = ji6 := by rw [← hji6_]; split <;> split <;> omega
  obtain ⟨ji7, hji7⟩ : ∃ j_ : Int, (mn (ji6) 8) = j_ := ⟨_, rfl⟩
  replace H : (if 0 ≤ (ji7) then (if (ji7) ≤ (a2.size : Int) then (if (ji7) ≤ (a3.size : Int) then (if (a0.size : Int) > 2000 then (planispherelaw01_DigestBlock.j0 k a0 (a2.extract 0 ((ji7) : Int).toNat) (a3.extract 0 ((ji7) : Int).toNat) t101 ji7 (wrap64 (8 * (wrap64 (a1)))) true) else (planispherelaw01_DigestBlock.j0 k a0 (a2.extract 0 ((ji7) : Int).toNat) (a3.extract 0 ((ji7) : Int).toNat) t101 ji7 (wrap64 (8 * (wrap64 (a1)))) (decide ((wrap64 (8 * (wrap64 (a1)))) > (a0.size : Int))))) else (none)) else (none)) else (none)) = some r := by first | (rw [hji7] at H; exact H) | (simp only [hji7] at H ⊢; exact H)
  (try rw [hji7] at A5)
  have hji7_ : (if 8 < (ji6) then 8 else (ji6)) = ji7 := hji7
  by_cases c8 : 0 ≤ (ji7)
  · rw [if_pos c8] at H
    have c8b0 := eq_true c8
    have c8b1 : decide (0 ≤ (ji7)) = true := decide_eq_true c8
    clear c8
    by_cases c9 : (ji7) ≤ (a2.size : Int)
    · rw [if_pos c9] at H
      have c9b0 := eq_true c9
      have c9b1 : decide ((ji7) ≤ (a2.size : Int)) = true := decide_eq_true c9
      clear c9
      have c10b0 := eq_true (of_decide_eq_true (by first | (with_reducible assumption) | assumption) : 0 ≤ (ji7))
      by_cases c11 : (ji7) ≤ (a3.size : Int)
      · rw [if_pos c11] at H
        have c11b0 := eq_true c11
        have c11b1 : decide ((ji7) ≤ (a3.size : Int)) = true := decide_eq_true c11
        clear c11
        have HC12 := Aside0.mk H
        clear H
        go_enter Tryd.func6, Tryd.ntmps6
        go_upto_region 6 with (first | ((with_reducible refine gate_callee (f := 15) rfl ?_); refine goesL_ (some 13) rfl rfl Tryd.func15 (by kernel_rfl) rfl #[] rfl (by (try simp only [List.map_toArray, List.map_cons, List.map_nil]); first | done | rfl | (simp only [List.length_drop, List.length_take]; rfl)) ?_; (with_reducible refine (planispherelaw01_head.calls  t101 _ A5.out (hG := ?hGl)).mono ?_); clear A5; (case hGl => exact (Glob.below HG_.out (by repeat (first | (with_reducible first | exact HB.out | apply below_alloc | apply pw_below_drewN | apply below_drew1) | exact HB.out)))); rintro e w13 ⟨rfl, hb⟩; refine ⟨_, rfl, ?_⟩; have n0_ := Aside0.mk (below_step (by repeat (first | (with_reducible first | exact HB.out | apply below_alloc | apply pw_below_drewN | apply below_drew1) | exact HB.out)) hb); clear HB; have HB := n0_; clear n0_; (try clear hb); (try clear hb2); (try clear hk); (try clear hi)))
        (try simp only [hji6n, hji7_])
        (try simp only [Act.put, List.setIfInBounds_toArray, List.set_cons_zero, List.set_cons_succ])
        go_cut [36] (fun v36 wc => ∃ (kq : Nat) (x36_11 : Bool), v36 = .bool x36_11 ∧ Aside0 (planispherelaw01_DigestBlock.j0 kq a0 (a2.extract 0 ((ji7) : Int).toNat) (a3.extract 0 ((ji7) : Int).toNat) t101 ji7 (wrap64 (8 * (wrap64 (a1)))) x36_11 = some r) ∧ Aside0 (kq ≤ k) ∧ Aside0 (Below w.heap.size w wc))
        case first =>
          have H := HC12.out
          clear HC12
          by_cases c14 : (a0.size : Int) > 2000
          · rw [if_pos c14] at H
            have c14b0 : decide (2000 < (a0.size : Int)) = true := decide_eq_true c14
            have c14b1 : decide (2000 < a0.size) = true := decide_eq_true (by omega)
            clear c14
            (first | rw [c14b0] | (simp only [i64_w, i32_w]; rw [c14b0]) | skip)
            have H' := Aside0.mk H
            clear H
            go_wp2
            go_meet
            case rel => exact ⟨_, (true), (by first | rfl | (simp; done) | (simp [*]; done)), H', ⟨by first | omega | exact Nat.le_refl _⟩, ⟨by repeat (first | (with_reducible first | exact HB.out | apply below_alloc | apply pw_below_drewN | apply below_drew1) | exact HB.out)⟩⟩
          · rw [if_neg c14] at H
            have c14b0 : decide (2000 < (a0.size : Int)) = false := decide_eq_false c14
            have c14b1 : decide (2000 < a0.size) = false := decide_eq_false (by omega)
            clear c14
            (first | rw [c14b0] | (simp only [i64_w, i32_w]; rw [c14b0]) | skip)
            have H' := Aside0.mk H
            clear H
            go_wp2
            go_meet
            case rel => exact ⟨_, (decide ((wrap64 (8 * (wrap64 (a1)))) > (a0.size : Int))), (by first | rfl | (simp; done) | (simp [*]; done)), H', ⟨by first | omega | exact Nat.le_refl _⟩, ⟨by repeat (first | (with_reducible first | exact HB.out | apply below_alloc | apply pw_below_drewN | apply below_drew1) | exact HB.out)⟩⟩
        case rest =>
          clear HC12
          try clear c1
          try clear p2
          try clear c6
          try clear p6
          try clear c8
          try clear c8b0
          try clear c8b1
          try clear c9
          try clear c9b0
          try clear c9b1
          try clear c10
          try clear c10b0
          try clear c11
          try clear c11b0
          try clear c11b1
          try clear c14
          try clear c14b0
          try clear c14b1
          obtain ⟨kq, x36_11, rfl, HA, HJ11, HB⟩ := hcut
          cases kq with
          | zero => exact absurd HA.out (by simp [planispherelaw01_DigestBlock.j0])
          | succ kj11 =>
            have H := HA.out
            clear HA
            simp only [planispherelaw01_DigestBlock.j0] at H
            by_cases c15 : x36_11 = true
            · subst c15
              have H1 : (some t101) = some r := by rw [if_pos rfl] at H; exact H
              clear H
              have H := H1
              clear H1
              obtain rfl := Option.some.inj H
              go_wp2
              go_ret
              exact ⟨by first | rfl | (simp [errW_none, errW_some] <;> rfl) | (simp only [← hji6, ← hji7]; first | rfl | (simp [errW_none, errW_some] <;> rfl)) | (simp [*, errW_none, errW_some] <;> rfl), by repeat (first | (with_reducible first | exact HB.out | apply below_alloc | apply pw_below_drewN | apply below_drew1) | exact HB.out)⟩
            · replace c15 := Bool.eq_false_iff.mpr c15
              subst c15
              have H1 : (if 0 ≤ (mn (wrap64 ((wrap64 (8 * (wrap64 (a1)))) + ji7)) (a0.size : Int)) then (if (mn (wrap64 ((wrap64 (8 * (wrap64 (a1)))) + ji7)) (a0.size : Int)) ≤ (a0.size : Int) then (if t101 = true then (if 0 ≤ (wrap64 (8 * (wrap64 (a1)))) then (if (wrap64 (8 * (wrap64 (a1)))) ≤ (a0.size : Int) then (if (a0.extract 0 ((wrap64 (8 * (wrap64 (a1)))) : Int).toNat).size + (a2.extract 0 ((ji7) : Int).toNat).size ≤ 9223372036854775807 then (if ((a0.extract 0 ((wrap64 (8 * (wrap64 (a1)))) : Int).toNat) ++ (a2.extract 0 ((ji7) : Int).toNat)).size + (a0.extract ((mn (wrap64 ((wrap64 (8 * (wrap64 (a1)))) + ji7)) (a0.size : Int)) : Int).toNat a0.size).size ≤ 9223372036854775807 then ((digest_Sum.f (((a0.extract 0 ((wrap64 (8 * (wrap64 (a1)))) : Int).toNat) ++ (a2.extract 0 ((ji7) : Int).toNat)) ++ (a0.extract ((mn (wrap64 ((wrap64 (8 * (wrap64 (a1)))) + ji7)) (a0.size : Int)) : Int).toNat a0.size))).bind fun t102 => (if (a0.extract 0 ((wrap64 (8 * (wrap64 (a1)))) : Int).toNat).size + (a3.extract 0 ((ji7) : Int).toNat).size ≤ 9223372036854775807 then (if ((a0.extract 0 ((wrap64 (8 * (wrap64 (a1)))) : Int).toNat) ++ (a3.extract 0 ((ji7) : Int).toNat)).size + (a0.extract ((mn (wrap64 ((wrap64 (8 * (wrap64 (a1)))) + ji7)) (a0.size : Int)) : Int).toNat a0.size).size ≤ 9223372036854775807 then ((digest_Sum.f (((a0.extract 0 ((wrap64 (8 * (wrap64 (a1)))) : Int).toNat) ++ (a3.extract 0 ((ji7) : Int).toNat)) ++ (a0.extract ((mn (wrap64 ((wrap64 (8 * (wrap64 (a1)))) + ji7)) (a0.size : Int)) : Int).toNat a0.size))).bind fun t103 => (some ((t102.toList == t103.toList) == ((a2.extract 0 ((ji7) : Int).toNat).toList == (a3.extract 0 ((ji7) : Int).toNat).toList)))) else (none)) else (none))) else (none)) else (none)) else (none)) else (none)) else (some false)) else (none)) else (none)) = some r := by rw [if_neg (show ¬ (false = true) by decide)] at H; exact H
              clear H
              have H := H1
              clear H1
              obtain ⟨ji16, hji16⟩ : ∃ j_ : Int, (mn (wrap64 ((wrap64 (8 * (wrap64 (a1)))) + ji7)) (a0.size : Int)) = j_ := ⟨_, rfl⟩
              replace H : (if 0 ≤ (ji16) then (if (ji16) ≤ (a0.size : Int) then (if t101 = true then (if 0 ≤ (wrap64 (8 * (wrap64 (a1)))) then (if (wrap64 (8 * (wrap64 (a1)))) ≤ (a0.size : Int) then (if (a0.extract 0 ((wrap64 (8 * (wrap64 (a1)))) : Int).toNat).size + (a2.extract 0 ((ji7) : Int).toNat).size ≤ 9223372036854775807 then (if ((a0.extract 0 ((wrap64 (8 * (wrap64 (a1)))) : Int).toNat) ++ (a2.extract 0 ((ji7) : Int).toNat)).size + (a0.extract ((ji16) : Int).toNat a0.size).size ≤ 9223372036854775807 then ((digest_Sum.f (((a0.extract 0 ((wrap64 (8 * (wrap64 (a1)))) : Int).toNat) ++ (a2.extract 0 ((ji7) : Int).toNat)) ++ (a0.extract ((ji16) : Int).toNat a0.size))).bind fun t102 => (if (a0.extract 0 ((wrap64 (8 * (wrap64 (a1)))) : Int).toNat).size + (a3.extract 0 ((ji7) : Int).toNat).size ≤ 9223372036854775807 then (if ((a0.extract 0 ((wrap64 (8 * (wrap64 (a1)))) : Int).toNat) ++ (a3.extract 0 ((ji7) : Int).toNat)).size + (a0.extract ((ji16) : Int).toNat a0.size).size ≤ 9223372036854775807 then ((digest_Sum.f (((a0.extract 0 ((wrap64 (8 * (wrap64 (a1)))) : Int).toNat) ++ (a3.extract 0 ((ji7) : Int).toNat)) ++ (a0.extract ((ji16) : Int).toNat a0.size))).bind fun t103 => (some ((t102.toList == t103.toList) == ((a2.extract 0 ((ji7) : Int).toNat).toList == (a3.extract 0 ((ji7) : Int).toNat).toList)))) else (none)) else (none))) else (none)) else (none)) else (none)) else (none)) else (some false)) else (none)) else (none)) = some r := by first | (rw [hji16] at H; exact H) | (simp only [hji16] at H ⊢; exact H)
              have hji16_ : (if (a0.size : Int) < (wrap64 ((wrap64 (8 * (wrap64 (a1)))) + ji7)) then (a0.size : Int) else (wrap64 ((wrap64 (8 * (wrap64 (a1)))) + ji7))) = ji16 := hji16
              by_cases c17 : 0 ≤ (ji16)
              · rw [if_pos c17] at H
                have c17b0 := eq_true c17
                have c17b1 : decide (0 ≤ (ji16)) = true := decide_eq_true c17
                clear c17
                by_cases c18 : (ji16) ≤ (a0.size : Int)
                · rw [if_pos c18] at H
                  have c18b0 := eq_true c18
                  have c18b1 : decide ((ji16) ≤ (a0.size : Int)) = true := decide_eq_true c18
                  clear c18
                  by_cases c19 : t101 = true
                  · subst c19
                    have H1 : (if 0 ≤ (wrap64 (8 * (wrap64 (a1)))) then (if (wrap64 (8 * (wrap64 (a1)))) ≤ (a0.size : Int) then (if (a0.extract 0 ((wrap64 (8 * (wrap64 (a1)))) : Int).toNat).size + (a2.extract 0 ((ji7) : Int).toNat).size ≤ 9223372036854775807 then (if ((a0.extract 0 ((wrap64 (8 * (wrap64 (a1)))) : Int).toNat) ++ (a2.extract 0 ((ji7) : Int).toNat)).size + (a0.extract ((ji16) : Int).toNat a0.size).size ≤ 9223372036854775807 then ((digest_Sum.f (((a0.extract 0 ((wrap64 (8 * (wrap64 (a1)))) : Int).toNat) ++ (a2.extract 0 ((ji7) : Int).toNat)) ++ (a0.extract ((ji16) : Int).toNat a0.size))).bind fun t102 => (if (a0.extract 0 ((wrap64 (8 * (wrap64 (a1)))) : Int).toNat).size + (a3.extract 0 ((ji7) : Int).toNat).size ≤ 9223372036854775807 then (if ((a0.extract 0 ((wrap64 (8 * (wrap64 (a1)))) : Int).toNat) ++ (a3.extract 0 ((ji7) : Int).toNat)).size + (a0.extract ((ji16) : Int).toNat a0.size).size ≤ 9223372036854775807 then ((digest_Sum.f (((a0.extract 0 ((wrap64 (8 * (wrap64 (a1)))) : Int).toNat) ++ (a3.extract 0 ((ji7) : Int).toNat)) ++ (a0.extract ((ji16) : Int).toNat a0.size))).bind fun t103 => (some ((t102.toList == t103.toList) == ((a2.extract 0 ((ji7) : Int).toNat).toList == (a3.extract 0 ((ji7) : Int).toNat).toList)))) else (none)) else (none))) else (none)) else (none)) else (none)) else (none)) = some r := by rw [if_pos rfl] at H; exact H
                    clear H
                    have H := H1
                    clear H1
                    obtain ⟨ji20, hji20⟩ : ∃ j_ : Int, (wrap64 (8 * (wrap64 (a1)))) = j_ := ⟨_, rfl⟩
                    replace H : (if 0 ≤ (ji20) then (if (ji20) ≤ (a0.size : Int) then (if (a0.extract 0 ((ji20) : Int).toNat).size + (a2.extract 0 ((ji7) : Int).toNat).size ≤ 9223372036854775807 then (if ((a0.extract 0 ((ji20) : Int).toNat) ++ (a2.extract 0 ((ji7) : Int).toNat)).size + (a0.extract ((ji16) : Int).toNat a0.size).size ≤ 9223372036854775807 then ((digest_Sum.f (((a0.extract 0 ((ji20) : Int).toNat) ++ (a2.extract 0 ((ji7) : Int).toNat)) ++ (a0.extract ((ji16) : Int).toNat a0.size))).bind fun t102 => (if (a0.extract 0 ((ji20) : Int).toNat).size + (a3.extract 0 ((ji7) : Int).toNat).size ≤ 9223372036854775807 then (if ((a0.extract 0 ((ji20) : Int).toNat) ++ (a3.extract 0 ((ji7) : Int).toNat)).size + (a0.extract ((ji16) : Int).toNat a0.size).size ≤ 9223372036854775807 then ((digest_Sum.f (((a0.extract 0 ((ji20) : Int).toNat) ++ (a3.extract 0 ((ji7) : Int).toNat)) ++ (a0.extract ((ji16) : Int).toNat a0.size))).bind fun t103 => (some ((t102.toList == t103.toList) == ((a2.extract 0 ((ji7) : Int).toNat).toList == (a3.extract 0 ((ji7) : Int).toNat).toList)))) else (none)) else (none))) else (none)) else (none)) else (none)) else (none)) = some r := by first | (rw [hji20] at H; exact H) | (simp only [hji20] at H ⊢; exact H)
                    have hji20w : (IntKind.i64.wrap (8 * (wrap64 (a1)))) = ji20 := (i64_w _).trans hji20
                    have hji16n : (if (a0.size : Int) < (wrap64 (ji20 + ji7)) then (a0.size : Int) else (wrap64 (ji20 + ji7))) = ji16 := by rw [← hji20]; exact hji16_
                    by_cases c21 : 0 ≤ (ji20)
                    · rw [if_pos c21] at H
                      have c21b0 := eq_true c21
                      have c21b1 : decide (0 ≤ (ji20)) = true := decide_eq_true c21
                      clear c21
                      by_cases c22 : (ji20) ≤ (a0.size : Int)
                      · rw [if_pos c22] at H
                        have c22b0 := eq_true c22
                        have c22b1 : decide ((ji20) ≤ (a0.size : Int)) = true := decide_eq_true c22
                        clear c22
                        by_cases c23 : (a0.extract 0 ((ji20) : Int).toNat).size + (a2.extract 0 ((ji7) : Int).toNat).size ≤ 9223372036854775807
                        · rw [if_pos c23] at H
                          have c23b0 := eq_true c23
                          have c23b1 : decide ((a0.extract 0 ((ji20) : Int).toNat).size + (a2.extract 0 ((ji7) : Int).toNat).size ≤ 9223372036854775807) = true := decide_eq_true c23
                          try have c23b2 : (9223372036854775807 < (a0.extract 0 ((ji20) : Int).toNat).size + (a2.extract 0 ((ji7) : Int).toNat).size) = False := eq_false (Nat.not_lt.2 c23)
                          by_cases c24 : ((a0.extract 0 ((ji20) : Int).toNat) ++ (a2.extract 0 ((ji7) : Int).toNat)).size + (a0.extract ((ji16) : Int).toNat a0.size).size ≤ 9223372036854775807
                          · rw [if_pos c24] at H
                            have c24b0 := eq_true c24
                            have c24b1 : decide (((a0.extract 0 ((ji20) : Int).toNat) ++ (a2.extract 0 ((ji7) : Int).toNat)).size + (a0.extract ((ji16) : Int).toNat a0.size).size ≤ 9223372036854775807) = true := decide_eq_true c24
                            try have c24b2 : (9223372036854775807 < ((a0.extract 0 ((ji20) : Int).toNat) ++ (a2.extract 0 ((ji7) : Int).toNat)).size + (a0.extract ((ji16) : Int).toNat a0.size).size) = False := eq_false (Nat.not_lt.2 c24)
                            replace H := Option.bind_eq_some_iff.mp H
                            obtain ⟨t102, A250, H⟩ := H
                            replace H : (if (a0.extract 0 ((ji20) : Int).toNat).size + (a3.extract 0 ((ji7) : Int).toNat).size ≤ 9223372036854775807 then (if ((a0.extract 0 ((ji20) : Int).toNat) ++ (a3.extract 0 ((ji7) : Int).toNat)).size + (a0.extract ((ji16) : Int).toNat a0.size).size ≤ 9223372036854775807 then ((digest_Sum.f (((a0.extract 0 ((ji20) : Int).toNat) ++ (a3.extract 0 ((ji7) : Int).toNat)) ++ (a0.extract ((ji16) : Int).toNat a0.size))).bind fun t103 => (some ((t102.toList == t103.toList) == ((a2.extract 0 ((ji7) : Int).toNat).toList == (a3.extract 0 ((ji7) : Int).toNat).toList)))) else (none)) else (none)) = some r := H
                            have A25 := Aside0.mk A250
                            clear A250
                            have c26b0 := eq_true (of_decide_eq_true (by first | (with_reducible assumption) | assumption) : 0 ≤ (ji20))
                            have c27b0 := eq_true (of_decide_eq_true (by first | (with_reducible assumption) | assumption) : (ji20) ≤ (a0.size : Int))
                            by_cases c28 : (a0.extract 0 ((ji20) : Int).toNat).size + (a3.extract 0 ((ji7) : Int).toNat).size ≤ 9223372036854775807
                            · rw [if_pos c28] at H
                              have c28b0 := eq_true c28
                              have c28b1 : decide ((a0.extract 0 ((ji20) : Int).toNat).size + (a3.extract 0 ((ji7) : Int).toNat).size ≤ 9223372036854775807) = true := decide_eq_true c28
                              try have c28b2 : (9223372036854775807 < (a0.extract 0 ((ji20) : Int).toNat).size + (a3.extract 0 ((ji7) : Int).toNat).size) = False := eq_false (Nat.not_lt.2 c28)
                              by_cases c29 : ((a0.extract 0 ((ji20) : Int).toNat) ++ (a3.extract 0 ((ji7) : Int).toNat)).size + (a0.extract ((ji16) : Int).toNat a0.size).size ≤ 9223372036854775807
                              · rw [if_pos c29] at H
                                have c29b0 := eq_true c29
                                have c29b1 : decide (((a0.extract 0 ((ji20) : Int).toNat) ++ (a3.extract 0 ((ji7) : Int).toNat)).size + (a0.extract ((ji16) : Int).toNat a0.size).size ≤ 9223372036854775807) = true := decide_eq_true c29
                                try have c29b2 : (9223372036854775807 < ((a0.extract 0 ((ji20) : Int).toNat) ++ (a3.extract 0 ((ji7) : Int).toNat)).size + (a0.extract ((ji16) : Int).toNat a0.size).size) = False := eq_false (Nat.not_lt.2 c29)
                                replace H := Option.bind_eq_some_iff.mp H
                                obtain ⟨t103, A300, H⟩ := H
                                replace H : (some ((t102.toList == t103.toList) == ((a2.extract 0 ((ji7) : Int).toNat).toList == (a3.extract 0 ((ji7) : Int).toNat).toList))) = some r := H
                                have A30 := Aside0.mk A300
                                clear A300
                                obtain rfl := Option.some.inj H
                                try go_wp2
                                have n0_ := Aside0.mk (below_drew1 HB.out)
                                clear HB
                                have HB := n0_
                                clear n0_
                                refine start_ (n := 25) (S := fun w' => True) (ds := []) #[false, false, false, false, false, false, false, false, false, false, false, false, false, false, false, false, false, false, false, false, false, false, false, false, false] (by kernel_rfl) rfl rfl trivial (fun hHeld => ?_); refine with_tabW planispherelaw01_DigestBlock.tab9 planispherelaw01_DigestBlock.bits9 (fun HT_ HW_ => ?_)
                                generalize wc.drew = w31 at HB hHeld ⊢
                                refine pure_ (i := 0) (N := some 46) (v := ?_) (a' := ?_) #[true, false, false, false, false, false, false, false, false, false, false, false, false, false, false, false, false, false, false, false, false, false, false, false, false] rfl rfl (any_of HT_.out (by kernel_rfl)) (fun _ _ _ h => h) (Or.inl ⟨by rfl, ?_⟩) ?_ ?_
                                rotate_left
                                · intro w'
                                  first | (go_simp; with_reducible rfl) | (go_simp; rw [if_neg (by (have hone_ : ∀ b : UInt8, (ByteArray.mk #[b]).size = 1 := fun _ => rfl); (simp only [decide_eq_true_eq, ByteArray.size_extract, ByteArray.size_append, hone_] at *); omega)]; try with_reducible rfl)
                                rotate_left
                                · simp only [Act.put, List.setIfInBounds_toArray, List.set_cons_zero, List.set_cons_succ, i64_w, i32_w]
                                  rfl
                                refine pure_ (i := 1) (N := some 47) (v := ?_) (a' := ?_) #[true, true, false, false, false, false, false, false, false, false, false, false, false, false, false, false, false, false, false, false, false, false, false, false, false] rfl rfl (any_of HT_.out (by kernel_rfl)) (fun _ _ _ h => h) (Or.inl ⟨by rfl, ?_⟩) ?_ ?_
                                rotate_left
                                · intro w'
                                  first | (go_simp; with_reducible rfl) | (go_simp; rw [if_neg (by (have hone_ : ∀ b : UInt8, (ByteArray.mk #[b]).size = 1 := fun _ => rfl); (simp only [decide_eq_true_eq, ByteArray.size_extract, ByteArray.size_append, hone_] at *); omega)]; try with_reducible rfl)
                                rotate_left
                                · simp only [Act.put, List.setIfInBounds_toArray, List.set_cons_zero, List.set_cons_succ, i64_w, i32_w]
                                  rfl
                                refine pure_ (i := 2) (N := some 48) (v := ?_) (a' := ?_) #[true, true, true, false, false, false, false, false, false, false, false, false, false, false, false, false, false, false, false, false, false, false, false, false, false] rfl rfl (any_of HT_.out (by kernel_rfl)) (fun _ _ _ h => h) (Or.inl ⟨by rfl, ?_⟩) ?_ ?_
                                rotate_left
                                · intro w'
                                  first | (go_simp; with_reducible rfl) | (go_simp; rw [if_neg (by (have hone_ : ∀ b : UInt8, (ByteArray.mk #[b]).size = 1 := fun _ => rfl); (simp only [decide_eq_true_eq, ByteArray.size_extract, ByteArray.size_append, hone_] at *); omega)]; try with_reducible rfl)
                                rotate_left
                                · simp only [Act.put, List.setIfInBounds_toArray, List.set_cons_zero, List.set_cons_succ, i64_w, i32_w]
                                  rfl
                                refine pure_ (i := 3) (N := some 49) (v := ?_) (a' := ?_) #[true, true, true, true, false, false, false, false, false, false, false, false, false, false, false, false, false, false, false, false, false, false, false, false, false] rfl rfl (any_of HT_.out (by kernel_rfl)) (fun _ _ _ h => h) (Or.inl ⟨by rfl, ?_⟩) ?_ ?_
                                rotate_left
                                · intro w'
                                  first | (go_simp; with_reducible rfl) | (go_simp; rw [if_neg (by (have hone_ : ∀ b : UInt8, (ByteArray.mk #[b]).size = 1 := fun _ => rfl); (simp only [decide_eq_true_eq, ByteArray.size_extract, ByteArray.size_append, hone_] at *); omega)]; try with_reducible rfl)
                                rotate_left
                                · simp only [Act.put, List.setIfInBounds_toArray, List.set_cons_zero, List.set_cons_succ, i64_w, i32_w]
                                  rfl
                                refine pure_ (i := 4) (N := some 50) (v := ?_) (a' := ?_) #[true, true, true, true, true, false, false, false, false, false, false, false, false, false, false, false, false, false, false, false, false, false, false, false, false] rfl rfl (any_of HT_.out (by kernel_rfl)) (fun _ _ _ h => h) (Or.inl ⟨by rfl, ?_⟩) ?_ ?_
                                rotate_left
                                · intro w'
                                  first | (go_simp; with_reducible rfl) | (go_simp; rw [if_neg (by (have hone_ : ∀ b : UInt8, (ByteArray.mk #[b]).size = 1 := fun _ => rfl); (simp only [decide_eq_true_eq, ByteArray.size_extract, ByteArray.size_append, hone_] at *); omega)]; try with_reducible rfl)
                                rotate_left
                                · simp only [Act.put, List.setIfInBounds_toArray, List.set_cons_zero, List.set_cons_succ, i64_w, i32_w]
                                  rfl
                                refine pure_ (i := 5) (N := some 51) (v := ?_) (a' := ?_) #[true, true, true, true, true, true, false, false, false, false, false, false, false, false, false, false, false, false, false, false, false, false, false, false, false] rfl rfl (any_of HT_.out (by kernel_rfl)) (fun _ _ _ h => h) (Or.inl ⟨by rfl, ?_⟩) ?_ ?_
                                rotate_left
                                · intro w'
                                  first | (go_simp; with_reducible rfl) | (go_simp; rw [if_neg (by (have hone_ : ∀ b : UInt8, (ByteArray.mk #[b]).size = 1 := fun _ => rfl); (simp only [decide_eq_true_eq, ByteArray.size_extract, ByteArray.size_append, hone_] at *); omega)]; try with_reducible rfl)
                                rotate_left
                                · simp only [Act.put, List.setIfInBounds_toArray, List.set_cons_zero, List.set_cons_succ, i64_w, i32_w]
                                  rfl
                                refine pure_ (i := 6) (N := some 52) (v := ?_) (a' := ?_) #[true, true, true, true, true, true, true, false, false, false, false, false, false, false, false, false, false, false, false, false, false, false, false, false, false] rfl rfl (any_of HT_.out (by kernel_rfl)) (fun _ _ _ h => h) (Or.inl ⟨by rfl, ?_⟩) ?_ ?_
                                rotate_left
                                · intro w'
                                  first | (go_simp; with_reducible rfl) | (go_simp; rw [if_neg (by (have hone_ : ∀ b : UInt8, (ByteArray.mk #[b]).size = 1 := fun _ => rfl); (simp only [decide_eq_true_eq, ByteArray.size_extract, ByteArray.size_append, hone_] at *); omega)]; try with_reducible rfl)
                                rotate_left
                                · simp only [Act.put, List.setIfInBounds_toArray, List.set_cons_zero, List.set_cons_succ, i64_w, i32_w]
                                  rfl
                                refine pure_ (i := 7) (N := some 53) (v := ?_) (a' := ?_) #[true, true, true, true, true, true, true, true, false, false, false, false, false, false, false, false, false, false, false, false, false, false, false, false, false] rfl rfl (any_of HT_.out (by kernel_rfl)) (fun _ _ _ h => h) (Or.inl ⟨by rfl, ?_⟩) ?_ ?_
                                rotate_left
                                · intro w'
                                  first | (go_simp; with_reducible rfl) | (go_simp; rw [if_neg (by (have hone_ : ∀ b : UInt8, (ByteArray.mk #[b]).size = 1 := fun _ => rfl); (simp only [decide_eq_true_eq, ByteArray.size_extract, ByteArray.size_append, hone_] at *); omega)]; try with_reducible rfl)
                                rotate_left
                                · simp only [Act.put, List.setIfInBounds_toArray, List.set_cons_zero, List.set_cons_succ, i64_w, i32_w]
                                  rfl
                                refine pure_ (i := 8) (N := some 54) (v := ?_) (a' := ?_) #[true, true, true, true, true, true, true, true, true, false, false, false, false, false, false, false, false, false, false, false, false, false, false, false, false] rfl rfl (any_of HT_.out (by kernel_rfl)) (fun _ _ _ h => h) (Or.inl ⟨by rfl, ?_⟩) ?_ ?_
                                rotate_left
                                · intro w'
                                  first | (go_simp; with_reducible rfl) | (go_simp; rw [if_neg (by (have hone_ : ∀ b : UInt8, (ByteArray.mk #[b]).size = 1 := fun _ => rfl); (simp only [decide_eq_true_eq, ByteArray.size_extract, ByteArray.size_append, hone_] at *); omega)]; try with_reducible rfl)
                                rotate_left
                                · simp only [Act.put, List.setIfInBounds_toArray, List.set_cons_zero, List.set_cons_succ, i64_w, i32_w]
                                  rfl
                                refine pure_ (i := 10) (N := some 56) (v := ?_) (a' := ?_) #[true, true, true, true, true, true, true, true, true, false, true, false, false, false, false, false, false, false, false, false, false, false, false, false, false] rfl rfl (any_of HT_.out (by kernel_rfl)) (fun _ _ _ h => h) (Or.inl ⟨by rfl, ?_⟩) ?_ ?_
                                rotate_left
                                · intro w'
                                  first | (go_simp; with_reducible rfl) | (go_simp; rw [if_neg (by (have hone_ : ∀ b : UInt8, (ByteArray.mk #[b]).size = 1 := fun _ => rfl); (simp only [decide_eq_true_eq, ByteArray.size_extract, ByteArray.size_append, hone_] at *); omega)]; try with_reducible rfl)
                                rotate_left
                                · simp only [Act.put, List.setIfInBounds_toArray, List.set_cons_zero, List.set_cons_succ, i64_w, i32_w]
                                  rfl
                                refine pure_ (i := 11) (N := some 57) (v := ?_) (a' := ?_) #[true, true, true, true, true, true, true, true, true, false, true, true, false, false, false, false, false, false, false, false, false, false, false, false, false] rfl rfl (any_of HT_.out (by kernel_rfl)) (fun _ _ _ h => h) (Or.inl ⟨by rfl, ?_⟩) ?_ ?_
                                rotate_left
                                · intro w'
                                  first | (go_simp; with_reducible rfl) | (go_simp; rw [if_neg (by (have hone_ : ∀ b : UInt8, (ByteArray.mk #[b]).size = 1 := fun _ => rfl); (simp only [decide_eq_true_eq, ByteArray.size_extract, ByteArray.size_append, hone_] at *); omega)]; try with_reducible rfl)
                                rotate_left
                                · simp only [Act.put, List.setIfInBounds_toArray, List.set_cons_zero, List.set_cons_succ, i64_w, i32_w]
                                  rfl
                                refine pure_ (i := 12) (N := some 58) (v := ?_) (a' := ?_) #[true, true, true, true, true, true, true, true, true, false, true, true, true, false, false, false, false, false, false, false, false, false, false, false, false] rfl rfl (any_of HT_.out (by kernel_rfl)) (fun _ _ _ h => h) (Or.inl ⟨by rfl, ?_⟩) ?_ ?_
                                rotate_left
                                · intro w'
                                  first | (go_simp; with_reducible rfl) | (go_simp; rw [if_neg (by (have hone_ : ∀ b : UInt8, (ByteArray.mk #[b]).size = 1 := fun _ => rfl); (simp only [decide_eq_true_eq, ByteArray.size_extract, ByteArray.size_append, hone_] at *); omega)]; try with_reducible rfl)
                                rotate_left
                                · simp only [Act.put, List.setIfInBounds_toArray, List.set_cons_zero, List.set_cons_succ, i64_w, i32_w]
                                  rfl
                                refine pure_ (i := 13) (N := some 59) (v := ?_) (a' := ?_) #[true, true, true, true, true, true, true, true, true, false, true, true, true, true, false, false, false, false, false, false, false, false, false, false, false] rfl rfl (any_of HT_.out (by kernel_rfl)) (fun _ _ _ h => h) (Or.inl ⟨by rfl, ?_⟩) ?_ ?_
                                rotate_left
                                · intro w'
                                  first | (go_simp; with_reducible rfl) | (go_simp; rw [if_neg (by (have hone_ : ∀ b : UInt8, (ByteArray.mk #[b]).size = 1 := fun _ => rfl); (simp only [decide_eq_true_eq, ByteArray.size_extract, ByteArray.size_append, hone_] at *); omega)]; try with_reducible rfl)
                                rotate_left
                                · simp only [Act.put, List.setIfInBounds_toArray, List.set_cons_zero, List.set_cons_succ, i64_w, i32_w]
                                  rfl
                                refine pure_ (i := 14) (N := some 60) (v := ?_) (a' := ?_) #[true, true, true, true, true, true, true, true, true, false, true, true, true, true, true, false, false, false, false, false, false, false, false, false, false] rfl rfl (any_of HT_.out (by kernel_rfl)) (fun _ _ _ h => h) (Or.inl ⟨by rfl, ?_⟩) ?_ ?_
                                rotate_left
                                · intro w'
                                  first | (go_simp; with_reducible rfl) | (go_simp; rw [if_neg (by (have hone_ : ∀ b : UInt8, (ByteArray.mk #[b]).size = 1 := fun _ => rfl); (simp only [decide_eq_true_eq, ByteArray.size_extract, ByteArray.size_append, hone_] at *); omega)]; try with_reducible rfl)
                                rotate_left
                                · simp only [Act.put, List.setIfInBounds_toArray, List.set_cons_zero, List.set_cons_succ, i64_w, i32_w]
                                  rfl
                                refine pure_ (i := 15) (N := some 61) (v := ?_) (a' := ?_) #[true, true, true, true, true, true, true, true, true, false, true, true, true, true, true, true, false, false, false, false, false, false, false, false, false] rfl rfl (any_of HT_.out (by kernel_rfl)) (fun _ _ _ h => h) (Or.inl ⟨by rfl, ?_⟩) ?_ ?_
                                rotate_left
                                · intro w'
                                  first | (go_simp; with_reducible rfl) | (go_simp; rw [if_neg (by (have hone_ : ∀ b : UInt8, (ByteArray.mk #[b]).size = 1 := fun _ => rfl); (simp only [decide_eq_true_eq, ByteArray.size_extract, ByteArray.size_append, hone_] at *); omega)]; try with_reducible rfl)
                                rotate_left
                                · simp only [Act.put, List.setIfInBounds_toArray, List.set_cons_zero, List.set_cons_succ, i64_w, i32_w]
                                  rfl
                                refine pure_ (i := 16) (N := some 62) (v := ?_) (a' := ?_) #[true, true, true, true, true, true, true, true, true, false, true, true, true, true, true, true, true, false, false, false, false, false, false, false, false] rfl rfl (any_of HT_.out (by kernel_rfl)) (fun _ _ _ h => h) (Or.inl ⟨by rfl, ?_⟩) ?_ ?_
                                rotate_left
                                · intro w'
                                  first | (go_simp; with_reducible rfl) | (go_simp; rw [if_neg (by (have hone_ : ∀ b : UInt8, (ByteArray.mk #[b]).size = 1 := fun _ => rfl); (simp only [decide_eq_true_eq, ByteArray.size_extract, ByteArray.size_append, hone_] at *); omega)]; try with_reducible rfl)
                                rotate_left
                                · simp only [Act.put, List.setIfInBounds_toArray, List.set_cons_zero, List.set_cons_succ, i64_w, i32_w]
                                  rfl
                                refine pure_ (i := 19) (N := some 65) (v := ?_) (a' := ?_) #[true, true, true, true, true, true, true, true, true, false, true, true, true, true, true, true, true, false, false, true, false, false, false, false, false] rfl rfl (any_of HT_.out (by kernel_rfl)) (fun _ _ _ h => h) (Or.inl ⟨by rfl, ?_⟩) ?_ ?_
                                rotate_left
                                · intro w'
                                  first | (go_simp; with_reducible rfl) | (go_simp; rw [if_neg (by (have hone_ : ∀ b : UInt8, (ByteArray.mk #[b]).size = 1 := fun _ => rfl); (simp only [decide_eq_true_eq, ByteArray.size_extract, ByteArray.size_append, hone_] at *); omega)]; try with_reducible rfl)
                                rotate_left
                                · simp only [Act.put, List.setIfInBounds_toArray, List.set_cons_zero, List.set_cons_succ, i64_w, i32_w]
                                  rfl
                                refine pure_ (i := 20) (N := some 66) (v := ?_) (a' := ?_) #[true, true, true, true, true, true, true, true, true, false, true, true, true, true, true, true, true, false, false, true, true, false, false, false, false] rfl rfl (any_of HT_.out (by kernel_rfl)) (fun _ _ _ h => h) (Or.inl ⟨by rfl, ?_⟩) ?_ ?_
                                rotate_left
                                · intro w'
                                  first | (go_simp; with_reducible rfl) | (go_simp; rw [if_neg (by (have hone_ : ∀ b : UInt8, (ByteArray.mk #[b]).size = 1 := fun _ => rfl); (simp only [decide_eq_true_eq, ByteArray.size_extract, ByteArray.size_append, hone_] at *); omega)]; try with_reducible rfl)
                                rotate_left
                                · simp only [Act.put, List.setIfInBounds_toArray, List.set_cons_zero, List.set_cons_succ, i64_w, i32_w]
                                  rfl
                                refine pure_ (i := 21) (N := some 67) (v := ?_) (a' := ?_) #[true, true, true, true, true, true, true, true, true, false, true, true, true, true, true, true, true, false, false, true, true, true, false, false, false] rfl rfl (any_of HT_.out (by kernel_rfl)) (fun _ _ _ h => h) (Or.inl ⟨by rfl, ?_⟩) ?_ ?_
                                rotate_left
                                · intro w'
                                  first | (go_simp; with_reducible rfl) | (go_simp; rw [if_neg (by (have hone_ : ∀ b : UInt8, (ByteArray.mk #[b]).size = 1 := fun _ => rfl); (simp only [decide_eq_true_eq, ByteArray.size_extract, ByteArray.size_append, hone_] at *); omega)]; try with_reducible rfl)
                                rotate_left
                                · simp only [Act.put, List.setIfInBounds_toArray, List.set_cons_zero, List.set_cons_succ, i64_w, i32_w]
                                  rfl
                                refine one_ (i := 9) (N := some 55) #[true, true, true, true, true, true, true, true, true, true, true, true, true, true, true, true, true, false, false, true, true, true, false, false, false] rfl rfl (one_of HT_.out (by kernel_rfl)) (by decide) (fun K hK => ?_)
                                refine goes_ Tryd.func17 (by kernel_rfl) rfl #[.string (((a0.extract 0 ((ji20) : Int).toNat) ++ (a2.extract 0 ((ji7) : Int).toNat)) ++ (a0.extract ((ji16) : Int).toNat a0.size))] (by rfl) rfl rfl (by (try simp only [List.map_toArray, List.map_cons, List.map_nil]); first | done | (simp only [hji16, hji20, hji7]; rfl) | rfl | (simp only [List.length_drop, List.length_take]; rfl)) ?_
                                with_reducible refine (digest_Sum.calls (((a0.extract 0 ((ji20) : Int).toNat) ++ (a2.extract 0 ((ji7) : Int).toNat)) ++ (a0.extract ((ji16) : Int).toNat a0.size)) t102 _ A25.out).mono ?_
                                rintro e w32 ⟨rfl, hb⟩
                                refine ⟨_, rfl, ?_⟩
                                have n0_ := Aside0.mk (below_step (by repeat (first | (with_reducible first | exact HB.out | apply below_alloc | apply pw_below_drewN | apply below_drew1) | exact HB.out)) hb)
                                clear HB
                                have HB := n0_
                                clear n0_
                                (try clear hb)
                                (try clear hb2)
                                (try clear hk)
                                (try clear hi)
                                refine hK.out _ _ trivial (fun hHeld => ?_)
                                clear hK K
                                refine norm_ (a' := ?_) ?_ ?_
                                rotate_left
                                · show Act.put _ (some 55) _ = _
                                  simp only [Act.put, List.setIfInBounds_toArray, List.set_cons_zero, List.set_cons_succ, i64_w, i32_w]
                                  rfl
                                refine one_ (i := 17) (N := some 63) #[true, true, true, true, true, true, true, true, true, true, true, true, true, true, true, true, true, true, false, true, true, true, false, false, false] rfl rfl (one_of HT_.out (by kernel_rfl)) (by decide) (fun K hK => ?_)
                                refine goes_ Tryd.func17 (by kernel_rfl) rfl #[.string (((a0.extract 0 ((ji20) : Int).toNat) ++ (a3.extract 0 ((ji7) : Int).toNat)) ++ (a0.extract ((ji16) : Int).toNat a0.size))] (by rfl) rfl rfl (by (try simp only [List.map_toArray, List.map_cons, List.map_nil]); first | done | (simp only [hji16, hji20, hji7]; rfl) | rfl | (simp only [List.length_drop, List.length_take]; rfl)) ?_
                                with_reducible refine (digest_Sum.calls (((a0.extract 0 ((ji20) : Int).toNat) ++ (a3.extract 0 ((ji7) : Int).toNat)) ++ (a0.extract ((ji16) : Int).toNat a0.size)) t103 _ A30.out).mono ?_
                                rintro e w33 ⟨rfl, hb⟩
                                refine ⟨_, rfl, ?_⟩
                                have n0_ := Aside0.mk (below_step (by repeat (first | (with_reducible first | exact HB.out | apply below_alloc | apply pw_below_drewN | apply below_drew1) | exact HB.out)) hb)
                                clear HB
                                have HB := n0_
                                clear n0_
                                (try clear hb)
                                (try clear hb2)
                                (try clear hk)
                                (try clear hi)
                                refine hK.out _ _ trivial (fun hHeld => ?_)
                                clear hK K
                                refine norm_ (a' := ?_) ?_ ?_
                                rotate_left
                                · show Act.put _ (some 63) _ = _
                                  simp only [Act.put, List.setIfInBounds_toArray, List.set_cons_zero, List.set_cons_succ, i64_w, i32_w]
                                  rfl
                                refine pure_ (i := 18) (N := some 64) (v := ?_) (a' := ?_) #[true, true, true, true, true, true, true, true, true, true, true, true, true, true, true, true, true, true, true, true, true, true, false, false, false] rfl rfl (any_of HT_.out (by kernel_rfl)) (fun _ _ _ h => h) (Or.inl ⟨by rfl, ?_⟩) ?_ ?_
                                rotate_left
                                · intro w'
                                  first | (go_simp; with_reducible rfl) | (go_simp; rw [if_neg (by (have hone_ : ∀ b : UInt8, (ByteArray.mk #[b]).size = 1 := fun _ => rfl); (simp only [decide_eq_true_eq, ByteArray.size_extract, ByteArray.size_append, hone_] at *); omega)]; try with_reducible rfl)
                                rotate_left
                                · simp only [Act.put, List.setIfInBounds_toArray, List.set_cons_zero, List.set_cons_succ, i64_w, i32_w]
                                  rfl
                                refine pure_ (i := 22) (N := some 68) (v := ?_) (a' := ?_) #[true, true, true, true, true, true, true, true, true, true, true, true, true, true, true, true, true, true, true, true, true, true, true, false, false] rfl rfl (any_of HT_.out (by kernel_rfl)) (fun _ _ _ h => h) (Or.inl ⟨by rfl, ?_⟩) ?_ ?_
                                rotate_left
                                · intro w'
                                  first | (go_simp; with_reducible rfl) | (go_simp; rw [if_neg (by (have hone_ : ∀ b : UInt8, (ByteArray.mk #[b]).size = 1 := fun _ => rfl); (simp only [decide_eq_true_eq, ByteArray.size_extract, ByteArray.size_append, hone_] at *); omega)]; try with_reducible rfl)
                                rotate_left
                                · simp only [Act.put, List.setIfInBounds_toArray, List.set_cons_zero, List.set_cons_succ, i64_w, i32_w]
                                  rfl
                                refine pure_ (i := 23) (N := some 69) (v := ?_) (a' := ?_) #[true, true, true, true, true, true, true, true, true, true, true, true, true, true, true, true, true, true, true, true, true, true, true, true, false] rfl rfl (any_of HT_.out (by kernel_rfl)) (fun _ _ _ h => h) (Or.inl ⟨by rfl, ?_⟩) ?_ ?_
                                rotate_left
                                · intro w'
                                  first | (go_simp; with_reducible rfl) | (go_simp; rw [if_neg (by (have hone_ : ∀ b : UInt8, (ByteArray.mk #[b]).size = 1 := fun _ => rfl); (simp only [decide_eq_true_eq, ByteArray.size_extract, ByteArray.size_append, hone_] at *); omega)]; try with_reducible rfl)
                                rotate_left
                                · simp only [Act.put, List.setIfInBounds_toArray, List.set_cons_zero, List.set_cons_succ, i64_w, i32_w]
                                  rfl
                                refine pure_ (i := 24) (N := some 8) (v := ?_) (a' := ?_) #[true, true, true, true, true, true, true, true, true, true, true, true, true, true, true, true, true, true, true, true, true, true, true, true, true] rfl rfl (any_of HT_.out (by kernel_rfl)) (fun _ _ _ h => h) (Or.inl ⟨by rfl, ?_⟩) ?_ ?_
                                rotate_left
                                · intro w'
                                  first | (go_simp; with_reducible rfl) | (go_simp; rw [if_neg (by (have hone_ : ∀ b : UInt8, (ByteArray.mk #[b]).size = 1 := fun _ => rfl); (simp only [decide_eq_true_eq, ByteArray.size_extract, ByteArray.size_append, hone_] at *); omega)]; try with_reducible rfl)
                                rotate_left
                                · simp only [Act.put, List.setIfInBounds_toArray, List.set_cons_zero, List.set_cons_succ, i64_w, i32_w]
                                  rfl
                                refine done_ (done_of HT_.out (by kernel_rfl)) ?_
                                try go_wp2
                                go_ret
                                exact ⟨by first | rfl | (simp [errW_none, errW_some] <;> rfl) | (simp only [← hji6, ← hji7, ← hji16, ← hji20]; first | rfl | (simp [errW_none, errW_some] <;> rfl)) | (simp [*, errW_none, errW_some] <;> rfl), by repeat (first | (with_reducible first | exact HB.out | apply below_alloc | apply pw_below_drewN | apply below_drew1) | exact HB.out)⟩
                              · rw [if_neg c29] at H
                                exact absurd H (by simp)
                            · rw [if_neg c28] at H
                              exact absurd H (by simp)
                          · rw [if_neg c24] at H
                            exact absurd H (by simp)
                        · rw [if_neg c23] at H
                          exact absurd H (by simp)
                      · rw [if_neg c22] at H
                        exact absurd H (by simp)
                    · rw [if_neg c21] at H
                      exact absurd H (by simp)
                  · replace c19 := Bool.eq_false_iff.mpr c19
                    subst c19
                    have H1 : (some false) = some r := by rw [if_neg (show ¬ (false = true) by decide)] at H; exact H
                    clear H
                    have H := H1
                    clear H1
                    obtain rfl := Option.some.inj H
                    try go_wp2
                    have n0_ := Aside0.mk (below_drew1 HB.out)
                    clear HB
                    have HB := n0_
                    clear n0_
                    refine start_ (n := 25) (S := fun w' => True) (ds := []) #[false, false, false, false, false, false, false, false, false, false, false, false, false, false, false, false, false, false, false, false, false, false, false, false, false] (by kernel_rfl) rfl rfl trivial (fun hHeld => ?_); refine with_tabW planispherelaw01_DigestBlock.tab9 planispherelaw01_DigestBlock.bits9 (fun HT_ HW_ => ?_)
                    generalize wc.drew = w34 at HB hHeld ⊢
                    refine pure_ (i := 0) (N := some 46) (v := ?_) (a' := ?_) #[true, false, false, false, false, false, false, false, false, false, false, false, false, false, false, false, false, false, false, false, false, false, false, false, false] rfl rfl (any_of HT_.out (by kernel_rfl)) (fun _ _ _ h => h) (Or.inl ⟨by rfl, ?_⟩) ?_ ?_
                    rotate_left
                    · intro w'
                      first | (go_simp; with_reducible rfl) | (go_simp; rw [if_neg (by (have hone_ : ∀ b : UInt8, (ByteArray.mk #[b]).size = 1 := fun _ => rfl); (simp only [decide_eq_true_eq, ByteArray.size_extract, ByteArray.size_append, hone_] at *); omega)]; try with_reducible rfl)
                    rotate_left
                    · simp only [Act.put, List.setIfInBounds_toArray, List.set_cons_zero, List.set_cons_succ, i64_w, i32_w]
                      rfl
                    refine pure_ (i := 1) (N := some 47) (v := ?_) (a' := ?_) #[true, true, false, false, false, false, false, false, false, false, false, false, false, false, false, false, false, false, false, false, false, false, false, false, false] rfl rfl (any_of HT_.out (by kernel_rfl)) (fun _ _ _ h => h) (Or.inl ⟨by rfl, ?_⟩) ?_ ?_
                    rotate_left
                    · intro w'
                      first | (go_simp; with_reducible rfl) | (go_simp; rw [if_neg (by (have hone_ : ∀ b : UInt8, (ByteArray.mk #[b]).size = 1 := fun _ => rfl); (simp only [decide_eq_true_eq, ByteArray.size_extract, ByteArray.size_append, hone_] at *); omega)]; try with_reducible rfl)
                    rotate_left
                    · simp only [Act.put, List.setIfInBounds_toArray, List.set_cons_zero, List.set_cons_succ, i64_w, i32_w]
                      rfl
                    refine pure_ (i := 2) (N := some 48) (v := undef) (a' := ?_) #[true, true, true, false, false, false, false, false, false, false, false, false, false, false, false, false, false, false, false, false, false, false, false, false, false] rfl rfl (any_of HT_.out (by kernel_rfl)) (fun _ _ _ h => h) (Or.inr ⟨by rfl, rfl⟩) ?_ ?_
                    rotate_left
                    · simp only [Act.put, List.setIfInBounds_toArray, List.set_cons_zero, List.set_cons_succ, i64_w, i32_w]
                      rfl
                    refine pure_ (i := 3) (N := some 49) (v := undef) (a' := ?_) #[true, true, true, true, false, false, false, false, false, false, false, false, false, false, false, false, false, false, false, false, false, false, false, false, false] rfl rfl (any_of HT_.out (by kernel_rfl)) (fun _ _ _ h => h) (Or.inr ⟨by rfl, rfl⟩) ?_ ?_
                    rotate_left
                    · simp only [Act.put, List.setIfInBounds_toArray, List.set_cons_zero, List.set_cons_succ, i64_w, i32_w]
                      rfl
                    refine pure_ (i := 4) (N := some 50) (v := undef) (a' := ?_) #[true, true, true, true, true, false, false, false, false, false, false, false, false, false, false, false, false, false, false, false, false, false, false, false, false] rfl rfl (any_of HT_.out (by kernel_rfl)) (fun _ _ _ h => h) (Or.inr ⟨by rfl, rfl⟩) ?_ ?_
                    rotate_left
                    · simp only [Act.put, List.setIfInBounds_toArray, List.set_cons_zero, List.set_cons_succ, i64_w, i32_w]
                      rfl
                    refine pure_ (i := 5) (N := some 51) (v := undef) (a' := ?_) #[true, true, true, true, true, true, false, false, false, false, false, false, false, false, false, false, false, false, false, false, false, false, false, false, false] rfl rfl (any_of HT_.out (by kernel_rfl)) (fun _ _ _ h => h) (Or.inr ⟨by rfl, rfl⟩) ?_ ?_
                    rotate_left
                    · simp only [Act.put, List.setIfInBounds_toArray, List.set_cons_zero, List.set_cons_succ, i64_w, i32_w]
                      rfl
                    refine pure_ (i := 6) (N := some 52) (v := undef) (a' := ?_) #[true, true, true, true, true, true, true, false, false, false, false, false, false, false, false, false, false, false, false, false, false, false, false, false, false] rfl rfl (any_of HT_.out (by kernel_rfl)) (fun _ _ _ h => h) (Or.inr ⟨by rfl, rfl⟩) ?_ ?_
                    rotate_left
                    · simp only [Act.put, List.setIfInBounds_toArray, List.set_cons_zero, List.set_cons_succ, i64_w, i32_w]
                      rfl
                    refine pure_ (i := 7) (N := some 53) (v := undef) (a' := ?_) #[true, true, true, true, true, true, true, true, false, false, false, false, false, false, false, false, false, false, false, false, false, false, false, false, false] rfl rfl (any_of HT_.out (by kernel_rfl)) (fun _ _ _ h => h) (Or.inr ⟨by rfl, rfl⟩) ?_ ?_
                    rotate_left
                    · simp only [Act.put, List.setIfInBounds_toArray, List.set_cons_zero, List.set_cons_succ, i64_w, i32_w]
                      rfl
                    refine pure_ (i := 8) (N := some 54) (v := undef) (a' := ?_) #[true, true, true, true, true, true, true, true, true, false, false, false, false, false, false, false, false, false, false, false, false, false, false, false, false] rfl rfl (any_of HT_.out (by kernel_rfl)) (fun _ _ _ h => h) (Or.inr ⟨by rfl, rfl⟩) ?_ ?_
                    rotate_left
                    · simp only [Act.put, List.setIfInBounds_toArray, List.set_cons_zero, List.set_cons_succ, i64_w, i32_w]
                      rfl
                    refine pure_ (i := 9) (N := some 55) (v := undef) (a' := ?_) #[true, true, true, true, true, true, true, true, true, true, false, false, false, false, false, false, false, false, false, false, false, false, false, false, false] rfl rfl (any_of HT_.out (by kernel_rfl)) (fun _ _ _ h => h) (Or.inr ⟨by rfl, rfl⟩) ?_ ?_
                    rotate_left
                    · simp only [Act.put, List.setIfInBounds_toArray, List.set_cons_zero, List.set_cons_succ, i64_w, i32_w]
                      rfl
                    refine pure_ (i := 10) (N := some 56) (v := undef) (a' := ?_) #[true, true, true, true, true, true, true, true, true, true, true, false, false, false, false, false, false, false, false, false, false, false, false, false, false] rfl rfl (any_of HT_.out (by kernel_rfl)) (fun _ _ _ h => h) (Or.inr ⟨by rfl, rfl⟩) ?_ ?_
                    rotate_left
                    · simp only [Act.put, List.setIfInBounds_toArray, List.set_cons_zero, List.set_cons_succ, i64_w, i32_w]
                      rfl
                    refine pure_ (i := 11) (N := some 57) (v := undef) (a' := ?_) #[true, true, true, true, true, true, true, true, true, true, true, true, false, false, false, false, false, false, false, false, false, false, false, false, false] rfl rfl (any_of HT_.out (by kernel_rfl)) (fun _ _ _ h => h) (Or.inr ⟨by rfl, rfl⟩) ?_ ?_
                    rotate_left
                    · simp only [Act.put, List.setIfInBounds_toArray, List.set_cons_zero, List.set_cons_succ, i64_w, i32_w]
                      rfl
                    refine pure_ (i := 12) (N := some 58) (v := undef) (a' := ?_) #[true, true, true, true, true, true, true, true, true, true, true, true, true, false, false, false, false, false, false, false, false, false, false, false, false] rfl rfl (any_of HT_.out (by kernel_rfl)) (fun _ _ _ h => h) (Or.inr ⟨by rfl, rfl⟩) ?_ ?_
                    rotate_left
                    · simp only [Act.put, List.setIfInBounds_toArray, List.set_cons_zero, List.set_cons_succ, i64_w, i32_w]
                      rfl
                    refine pure_ (i := 13) (N := some 59) (v := undef) (a' := ?_) #[true, true, true, true, true, true, true, true, true, true, true, true, true, true, false, false, false, false, false, false, false, false, false, false, false] rfl rfl (any_of HT_.out (by kernel_rfl)) (fun _ _ _ h => h) (Or.inr ⟨by rfl, rfl⟩) ?_ ?_
                    rotate_left
                    · simp only [Act.put, List.setIfInBounds_toArray, List.set_cons_zero, List.set_cons_succ, i64_w, i32_w]
                      rfl
                    refine pure_ (i := 14) (N := some 60) (v := undef) (a' := ?_) #[true, true, true, true, true, true, true, true, true, true, true, true, true, true, true, false, false, false, false, false, false, false, false, false, false] rfl rfl (any_of HT_.out (by kernel_rfl)) (fun _ _ _ h => h) (Or.inr ⟨by rfl, rfl⟩) ?_ ?_
                    rotate_left
                    · simp only [Act.put, List.setIfInBounds_toArray, List.set_cons_zero, List.set_cons_succ, i64_w, i32_w]
                      rfl
                    refine pure_ (i := 15) (N := some 61) (v := undef) (a' := ?_) #[true, true, true, true, true, true, true, true, true, true, true, true, true, true, true, true, false, false, false, false, false, false, false, false, false] rfl rfl (any_of HT_.out (by kernel_rfl)) (fun _ _ _ h => h) (Or.inr ⟨by rfl, rfl⟩) ?_ ?_
                    rotate_left
                    · simp only [Act.put, List.setIfInBounds_toArray, List.set_cons_zero, List.set_cons_succ, i64_w, i32_w]
                      rfl
                    refine pure_ (i := 16) (N := some 62) (v := undef) (a' := ?_) #[true, true, true, true, true, true, true, true, true, true, true, true, true, true, true, true, true, false, false, false, false, false, false, false, false] rfl rfl (any_of HT_.out (by kernel_rfl)) (fun _ _ _ h => h) (Or.inr ⟨by rfl, rfl⟩) ?_ ?_
                    rotate_left
                    · simp only [Act.put, List.setIfInBounds_toArray, List.set_cons_zero, List.set_cons_succ, i64_w, i32_w]
                      rfl
                    refine pure_ (i := 17) (N := some 63) (v := undef) (a' := ?_) #[true, true, true, true, true, true, true, true, true, true, true, true, true, true, true, true, true, true, false, false, false, false, false, false, false] rfl rfl (any_of HT_.out (by kernel_rfl)) (fun _ _ _ h => h) (Or.inr ⟨by rfl, rfl⟩) ?_ ?_
                    rotate_left
                    · simp only [Act.put, List.setIfInBounds_toArray, List.set_cons_zero, List.set_cons_succ, i64_w, i32_w]
                      rfl
                    refine pure_ (i := 18) (N := some 64) (v := undef) (a' := ?_) #[true, true, true, true, true, true, true, true, true, true, true, true, true, true, true, true, true, true, true, false, false, false, false, false, false] rfl rfl (any_of HT_.out (by kernel_rfl)) (fun _ _ _ h => h) (Or.inr ⟨by rfl, rfl⟩) ?_ ?_
                    rotate_left
                    · simp only [Act.put, List.setIfInBounds_toArray, List.set_cons_zero, List.set_cons_succ, i64_w, i32_w]
                      rfl
                    refine pure_ (i := 19) (N := some 65) (v := undef) (a' := ?_) #[true, true, true, true, true, true, true, true, true, true, true, true, true, true, true, true, true, true, true, true, false, false, false, false, false] rfl rfl (any_of HT_.out (by kernel_rfl)) (fun _ _ _ h => h) (Or.inr ⟨by rfl, rfl⟩) ?_ ?_
                    rotate_left
                    · simp only [Act.put, List.setIfInBounds_toArray, List.set_cons_zero, List.set_cons_succ, i64_w, i32_w]
                      rfl
                    refine pure_ (i := 20) (N := some 66) (v := undef) (a' := ?_) #[true, true, true, true, true, true, true, true, true, true, true, true, true, true, true, true, true, true, true, true, true, false, false, false, false] rfl rfl (any_of HT_.out (by kernel_rfl)) (fun _ _ _ h => h) (Or.inr ⟨by rfl, rfl⟩) ?_ ?_
                    rotate_left
                    · simp only [Act.put, List.setIfInBounds_toArray, List.set_cons_zero, List.set_cons_succ, i64_w, i32_w]
                      rfl
                    refine pure_ (i := 21) (N := some 67) (v := undef) (a' := ?_) #[true, true, true, true, true, true, true, true, true, true, true, true, true, true, true, true, true, true, true, true, true, true, false, false, false] rfl rfl (any_of HT_.out (by kernel_rfl)) (fun _ _ _ h => h) (Or.inr ⟨by rfl, rfl⟩) ?_ ?_
                    rotate_left
                    · simp only [Act.put, List.setIfInBounds_toArray, List.set_cons_zero, List.set_cons_succ, i64_w, i32_w]
                      rfl
                    refine pure_ (i := 22) (N := some 68) (v := undef) (a' := ?_) #[true, true, true, true, true, true, true, true, true, true, true, true, true, true, true, true, true, true, true, true, true, true, true, false, false] rfl rfl (any_of HT_.out (by kernel_rfl)) (fun _ _ _ h => h) (Or.inr ⟨by rfl, rfl⟩) ?_ ?_
                    rotate_left
                    · simp only [Act.put, List.setIfInBounds_toArray, List.set_cons_zero, List.set_cons_succ, i64_w, i32_w]
                      rfl
                    refine pure_ (i := 23) (N := some 69) (v := ?_) (a' := ?_) #[true, true, true, true, true, true, true, true, true, true, true, true, true, true, true, true, true, true, true, true, true, true, true, true, false] rfl rfl (any_of HT_.out (by kernel_rfl)) (fun _ _ _ h => h) (Or.inl ⟨by rfl, ?_⟩) ?_ ?_
                    rotate_left
                    · intro w'
                      first | (go_simp; with_reducible rfl) | (go_simp; rw [if_neg (by (have hone_ : ∀ b : UInt8, (ByteArray.mk #[b]).size = 1 := fun _ => rfl); (simp only [decide_eq_true_eq, ByteArray.size_extract, ByteArray.size_append, hone_] at *); omega)]; try with_reducible rfl)
                    rotate_left
                    · simp only [Act.put, List.setIfInBounds_toArray, List.set_cons_zero, List.set_cons_succ, i64_w, i32_w]
                      rfl
                    refine pure_ (i := 24) (N := some 8) (v := ?_) (a' := ?_) #[true, true, true, true, true, true, true, true, true, true, true, true, true, true, true, true, true, true, true, true, true, true, true, true, true] rfl rfl (any_of HT_.out (by kernel_rfl)) (fun _ _ _ h => h) (Or.inl ⟨by rfl, ?_⟩) ?_ ?_
                    rotate_left
                    · intro w'
                      first | (go_simp; with_reducible rfl) | (go_simp; rw [if_neg (by (have hone_ : ∀ b : UInt8, (ByteArray.mk #[b]).size = 1 := fun _ => rfl); (simp only [decide_eq_true_eq, ByteArray.size_extract, ByteArray.size_append, hone_] at *); omega)]; try with_reducible rfl)
                    rotate_left
                    · simp only [Act.put, List.setIfInBounds_toArray, List.set_cons_zero, List.set_cons_succ, i64_w, i32_w]
                      rfl
                    refine done_ (done_of HT_.out (by kernel_rfl)) ?_
                    try go_wp2
                    go_ret
                    exact ⟨by first | rfl | (simp [errW_none, errW_some] <;> rfl) | (simp only [← hji6, ← hji7, ← hji16]; first | rfl | (simp [errW_none, errW_some] <;> rfl)) | (simp [*, errW_none, errW_some] <;> rfl), by repeat (first | (with_reducible first | exact HB.out | apply below_alloc | apply pw_below_drewN | apply below_drew1) | exact HB.out)⟩
                · rw [if_neg c18] at H
                  exact absurd H (by simp)
              · rw [if_neg c17] at H
                exact absurd H (by simp)
      · rw [if_neg c11] at H
        exact absurd H (by simp)
    · rw [if_neg c9] at H
      exact absurd H (by simp)
  · rw [if_neg c8] at H
    exact absurd H (by simp)

end Go.Proofs.YteleheamnighkaaDoor.PDBlock
