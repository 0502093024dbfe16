/-
What RowSBinds leans on, part 6: the texts of this seat, merged.
-/
import Derived.Test.YteleheamnighkaaDoorMSBindse
import Derived.Test.YteleheamnighkaaDoorRows
import Derived.Test.YteleheamnighkaaDoorTie
import Derived.Test.YteleheamnighkaaDoorCards
import Derived.WalkKit
import Derived.ProofKit
import Derived.OpenShut
import Derived.ShutString
import Derived.ChangeOld
import Derived.Below
import Derived.SizedLaws
import Derived.Lay
import Derived.LaidMore
import Derived.Lib.LaidTab
import Derived.Lib.LaidU8
import Derived.Lib.SmallJoins
import Derived.SliceStrings
import Derived.SevenTiedAt
section
namespace Go.Proofs.YteleheamnighkaaDoor.PSBinds
open Go.RowKit Go.Proofs.YteleheamnighkaaDoorW.PrintWords Go.Proofs.YteleheamnighkaaDoorW.PrintLast Go.Proofs.YteleheamnighkaaDoorW.PrintMore
attribute [local go_sem] max2_int min2_int max_two min_two max_three min_three max_four min_four   -- for this text's walks alone
set_option linter.unusedVariables false
set_option linter.unusedSimpArgs false
mutual
def planispherelaw02_SealBinds.j0 : Nat → ByteArray → ByteArray → ByteArray → Bool → Int → Int → Bool → Option (Bool)
  | 0, _, _, _, _, _, _, _ => none
  | k + 1, x0, x3, x4, x11, x12, x13, x39 => if x39 = true then (some x11) else ((seal_Public.f x0 x12).bind fun bt108 => ((seal_Sign.f x0 x12 x13 x3).bind fun bt110 => (if bt108.2 = 0 then (planispherelaw02_SealBinds.j1 k x0 x4 x11 x12 bt108.1 (bt110.2.2.2 != 0) bt110.1 bt110.2.1 bt110.2.2.1) else (planispherelaw02_SealBinds.j1 k x0 x4 x11 x12 bt108.1 true bt110.1 bt110.2.1 bt110.2.2.1))))
def planispherelaw02_SealBinds.j1 : Nat → ByteArray → ByteArray → Bool → Int → ByteArray → Bool → Int → List ByteArray → List ByteArray → Option (Bool)
  | 0, _, _, _, _, _, _, _, _, _ => none
  | k + 1, x0, x4, x11, x12, x14, x60, x119000, x119001, x119002 => if x60 = true then (some false) else ((seal_Verify.f x14 x4 x119000 x119001 x119002).bind fun t119 => (if t119 = true then (if x11 = true then ((planisphereref02_Made.f x0 x12 30).bind fun t120 => ((planisphereref02_Checked.f x4 x119000 x119001 x119002).bind fun t123 => (if t120.length + t123.length < 8796093022208 then ((planisphereref02_Shown.f (t120 ++ t123)).bind fun t129 => (some t129)) else (none)))) else (some false)) else (some x11)))
end
def planispherelaw02_SealBinds.f (k : Nat) (a0 : ByteArray) (a1 : Int) (a2 : Int) (a3 : ByteArray) (a4 : ByteArray) : Option (Bool) := (planispherelaw02_head.f).bind fun t101 => (if 0 ≤ (Int.tmod (wrap64 (a1)) 3) then (if (shl .i64 1 (Int.tmod (wrap64 (a1)) 3)) = 0 then (none) else ((planispherelaw02_short.f (([a0, a3, a4] : List ByteArray))).bind fun t105 => (if t105 = true then ((planisphereref01_Sum.f a3).bind fun t106 => ((planisphereref01_Sum.f a4).bind fun t107 => (planispherelaw02_SealBinds.j0 k a0 a3 a4 t101 (Int.tmod (wrap64 (a1)) 3) (Int.tmod (wrap64 (a2)) (shl .i64 1 (Int.tmod (wrap64 (a1)) 3))) (t106.toList == t107.toList)))) else (planispherelaw02_SealBinds.j0 k a0 a3 a4 t101 (Int.tmod (wrap64 (a1)) 3) (Int.tmod (wrap64 (a2)) (shl .i64 1 (Int.tmod (wrap64 (a1)) 3))) true)))) else (none))
def planispherelaw02_SealBinds.T12 : Bool × List (List Nat × List Nat) := (true, [([], []), ([0], [0]), ([1], [1]), ([1], [1]), ([2, 3, 1, 1], [1, 2, 3]), ([1], [1]), ([1], [1]), ([5, 6, 4, 1], [1, 5, 6]), ([4, 7, 7, 1], [1, 4, 7]), ([8, 8, 1], [1, 8]), ([1, 9], [1, 9]), ([10, 9, 0, 1, 2, 3, 4, 5, 6, 7, 8, 9, 10], [10])])
def planispherelaw02_SealBinds.B12 : List Nat := [0, 1, 3, 3, 15, 3, 3, 127, 255, 511, 1023, 2047]
theorem planispherelaw02_SealBinds.tab12 : rtab .any (opsOf Tryd.f11 12) = planispherelaw02_SealBinds.T12 := by kernel_rfl
theorem planispherelaw02_SealBinds.bits12 : waitsOk planispherelaw02_SealBinds.T12.2 planispherelaw02_SealBinds.B12 = true := by kernel_rfl
set_option maxHeartbeats 8000000 in
set_option maxRecDepth 100000 in
theorem planispherelaw02_SealBinds.calls (k : Nat) (a0 : ByteArray) (a1 : Int) (a2 : Int) (a3 : ByteArray) (a4 : ByteArray) (r : Bool) (w : World) (h : planispherelaw02_SealBinds.f k a0 a1 a2 a3 a4 = some r) (hG : Glob w) :
    Calls Tryd.prog 11 #[.string a0, .int .u8 a1, .int .u8 a2, .string a3, .string a4] w fun e w' => e = .returned (.bool r) ∧ Below w.heap.size w w' := by
  have HG_ := Aside0.mk hG
  clear hG
  have hu35 := Tryd.underlying35
  have HB := Aside0.mk (Below.refl w.heap.size w)
  have H : ((planispherelaw02_head.f).bind fun t101 => (if 0 ≤ (Int.tmod (wrap64 (a1)) 3) then (if (shl .i64 1 (Int.tmod (wrap64 (a1)) 3)) = 0 then (none) else ((planispherelaw02_short.f (([a0, a3, a4] : List ByteArray))).bind fun t105 => (if t105 = true then ((planisphereref01_Sum.f a3).bind fun t106 => ((planisphereref01_Sum.f a4).bind fun t107 => (planispherelaw02_SealBinds.j0 k a0 a3 a4 t101 (Int.tmod (wrap64 (a1)) 3) (Int.tmod (wrap64 (a2)) (shl .i64 1 (Int.tmod (wrap64 (a1)) 3))) (t106.toList == t107.toList)))) else (planispherelaw02_SealBinds.j0 k a0 a3 a4 t101 (Int.tmod (wrap64 (a1)) 3) (Int.tmod (wrap64 (a2)) (shl .i64 1 (Int.tmod (wrap64 (a1)) 3))) true)))) else (none))) = some r := h
  clear h
  replace H := Option.bind_eq_some_iff.mp H
  obtain ⟨t101, A60, H⟩ := H
  replace H : (if 0 ≤ (Int.tmod (wrap64 (a1)) 3) then (if (shl .i64 1 (Int.tmod (wrap64 (a1)) 3)) = 0 then (none) else ((planispherelaw02_short.f (([a0, a3, a4] : List ByteArray))).bind fun t105 => (if t105 = true then ((planisphereref01_Sum.f a3).bind fun t106 => ((planisphereref01_Sum.f a4).bind fun t107 => (planispherelaw02_SealBinds.j0 k a0 a3 a4 t101 (Int.tmod (wrap64 (a1)) 3) (Int.tmod (wrap64 (a2)) (shl .i64 1 (Int.tmod (wrap64 (a1)) 3))) (t106.toList == t107.toList)))) else (planispherelaw02_SealBinds.j0 k a0 a3 a4 t101 (Int.tmod (wrap64 (a1)) 3) (Int.tmod (wrap64 (a2)) (shl .i64 1 (Int.tmod (wrap64 (a1)) 3))) true)))) else (none)) = some r := H
  have A6 := Aside0.mk A60
  clear A60
  obtain ⟨ji7, hji7⟩ : ∃ j_ : Int, (Int.tmod (wrap64 (a1)) 3) = j_ := ⟨_, rfl⟩
  replace H : (if 0 ≤ (ji7) then (if (shl .i64 1 (ji7)) = 0 then (none) else ((planispherelaw02_short.f (([a0, a3, a4] : List ByteArray))).bind fun t105 => (if t105 = true then ((planisphereref01_Sum.f a3).bind fun t106 => ((planisphereref01_Sum.f a4).bind fun t107 => (planispherelaw02_SealBinds.j0 k a0 a3 a4 t101 ji7 (Int.tmod (wrap64 (a2)) (shl .i64 1 (ji7))) (t106.toList == t107.toList)))) else (planispherelaw02_SealBinds.j0 k a0 a3 a4 t101 ji7 (Int.tmod (wrap64 (a2)) (shl .i64 1 (ji7))) true)))) else (none)) = some r := by first | (rw [hji7] at H; exact H) | (simp only [hji7] at H ⊢; exact H)
  (try rw [hji7] at A6)
  by_cases c8 : 0 ≤ (ji7)
  · rw [if_pos c8] at H
    have c8b0 := eq_true c8
    have c8b1 : decide (0 ≤ (ji7)) = true := decide_eq_true c8
    clear c8
    obtain ⟨ji9, hji9⟩ : ∃ j_ : Int, (shl .i64 1 (ji7)) = j_ := ⟨_, rfl⟩
    replace H : (if (ji9) = 0 then (none) else ((planispherelaw02_short.f (([a0, a3, a4] : List ByteArray))).bind fun t105 => (if t105 = true then ((planisphereref01_Sum.f a3).bind fun t106 => ((planisphereref01_Sum.f a4).bind fun t107 => (planispherelaw02_SealBinds.j0 k a0 a3 a4 t101 ji7 (Int.tmod (wrap64 (a2)) (ji9)) (t106.toList == t107.toList)))) else (planispherelaw02_SealBinds.j0 k a0 a3 a4 t101 ji7 (Int.tmod (wrap64 (a2)) (ji9)) true)))) = some r := by first | (rw [hji9] at H; exact H) | (simp only [hji9] at H ⊢; exact H)
    (try rw [hji9] at A6)
    have hji9_ : (IntKind.i64.wrap (1 * 2 ^ min (ji7).toNat 64)) = ji9 := hji9
    have hji9z : (ji7) ≤ 64 → (IntKind.i64.wrap (1 * 2 ^ (ji7).toNat)) = ji9 := shl_small hji9
    have hji9u : (IntKind.i64.wrap (2 ^ min (ji7).toNat 64)) = ji9 := by have h_ := hji9_; rw [Int.one_mul] at h_; exact h_
    have hji9v : (ji7) ≤ 64 → (IntKind.i64.wrap (2 ^ (ji7).toNat)) = ji9 := fun hle_ => by have h_ := hji9z hle_; rw [Int.one_mul] at h_; exact h_
    have hji9y : (wrap64 (1 * 2 ^ min (ji7).toNat 64)) = ji9 := (i64_w _).symm.trans hji9_
    have hji9x : (ji7) ≤ 64 → (wrap64 (1 * 2 ^ (ji7).toNat)) = ji9 := fun h_ => (i64_w _).symm.trans (hji9z h_)
    by_cases c10 : (ji9) = 0
    · rw [if_pos c10] at H
      exact absurd H (by simp)
    · rw [if_neg c10] at H
      have c10b0 : ((ji9) == 0) = false := beq_eq_false_iff_ne.mpr c10
      have c10b1 : ((ji9) != 0) = true := bne_iff_ne.mpr c10
      have HC11 := Aside0.mk H
      clear H
      go_enter Tryd.func11, Tryd.ntmps11
      go_upto_region 4 with (first | ((with_reducible refine gate_callee (f := 25) rfl ?_); refine goesL_ (some 18) rfl rfl Tryd.func25 (by kernel_rfl) rfl #[] rfl (by (try simp only [List.map_toArray, List.map_cons, List.map_nil]); first | done | rfl | (simp only [List.length_drop, List.length_take]; rfl)) ?_; (with_reducible refine (planispherelaw02_head.calls  t101 _ A6.out (hG := ?hGl)).mono ?_); clear A6; (case hGl => exact (Glob.below HG_.out (by repeat (first | (with_reducible first | exact HB.out | apply below_alloc | apply pw_below_drewN | apply below_drew1) | exact HB.out)))); rintro e w12 ⟨rfl, hb⟩; refine ⟨_, rfl, ?_⟩; have n0_ := Aside0.mk (below_step (by repeat (first | (with_reducible first | exact HB.out | apply below_alloc | apply pw_below_drewN | apply below_drew1) | exact HB.out)) hb); clear HB; have HB := n0_; clear n0_; (try clear hb); (try clear hb2); (try clear hk); (try clear hi)))
      (try simp only [Act.put, List.setIfInBounds_toArray, List.set_cons_zero, List.set_cons_succ])
      go_cut [39] (fun v39 wc => ∃ (kq : Nat) (x39_10 : Bool), v39 = .bool x39_10 ∧ Aside0 (planispherelaw02_SealBinds.j0 kq a0 a3 a4 t101 ji7 (Int.tmod (wrap64 (a2)) (ji9)) x39_10 = some r) ∧ Aside0 (kq ≤ k) ∧ Aside0 (Below w.heap.size w wc))
      case first =>
        have H := HC11.out
        clear HC11
        obtain ⟨y102, hy102⟩ : ∃ y_ : List ByteArray, y_ = (([a0, a3, a4] : List ByteArray)) := ⟨_, rfl⟩
        replace H : ((planispherelaw02_short.f y102).bind fun t105 => (if t105 = true then ((planisphereref01_Sum.f a3).bind fun t106 => ((planisphereref01_Sum.f a4).bind fun t107 => (planispherelaw02_SealBinds.j0 k a0 a3 a4 t101 ji7 (Int.tmod (wrap64 (a2)) (ji9)) (t106.toList == t107.toList)))) else (planispherelaw02_SealBinds.j0 k a0 a3 a4 t101 ji7 (Int.tmod (wrap64 (a2)) (ji9)) true))) = some r := by first | (rw [hy102]; with_reducible exact H) | (have H2_ := (Option.bind_some _ _).symm.trans H; rw [hy102]; with_reducible exact H2_) | (have H2_ := (Option.bind_some _ _).symm.trans H; with_reducible exact H2_) | with_reducible exact H | (rw [hy102]; exact H) | exact H
        have Ny102 := Aside0.mk hy102
        clear hy102
        replace H := Option.bind_eq_some_iff.mp H
        obtain ⟨t105, A130, H⟩ := H
        replace H : (if t105 = true then ((planisphereref01_Sum.f a3).bind fun t106 => ((planisphereref01_Sum.f a4).bind fun t107 => (planispherelaw02_SealBinds.j0 k a0 a3 a4 t101 ji7 (Int.tmod (wrap64 (a2)) (ji9)) (t106.toList == t107.toList)))) else (planispherelaw02_SealBinds.j0 k a0 a3 a4 t101 ji7 (Int.tmod (wrap64 (a2)) (ji9)) true)) = some r := H
        have A13 := Aside0.mk A130
        clear A130
        by_cases c14 : t105 = true
        · subst c14
          have H1 : ((planisphereref01_Sum.f a3).bind fun t106 => ((planisphereref01_Sum.f a4).bind fun t107 => (planispherelaw02_SealBinds.j0 k a0 a3 a4 t101 ji7 (Int.tmod (wrap64 (a2)) (ji9)) (t106.toList == t107.toList)))) = some r := by rw [if_pos rfl] at H; exact H
          clear H
          have H := H1
          clear H1
          replace H := Option.bind_eq_some_iff.mp H
          obtain ⟨t106, A150, H⟩ := H
          replace H : ((planisphereref01_Sum.f a4).bind fun t107 => (planispherelaw02_SealBinds.j0 k a0 a3 a4 t101 ji7 (Int.tmod (wrap64 (a2)) (ji9)) (t106.toList == t107.toList))) = some r := H
          have A15 := Aside0.mk A150
          clear A150
          replace H := Option.bind_eq_some_iff.mp H
          obtain ⟨t107, A160, H⟩ := H
          replace H : (planispherelaw02_SealBinds.j0 k a0 a3 a4 t101 ji7 (Int.tmod (wrap64 (a2)) (ji9)) (t106.toList == t107.toList)) = some r := H
          have A16 := Aside0.mk A160
          clear A160
          have H' := Aside0.mk H
          clear H
          go_wp2_with (first | ((with_reducible refine gate_dst (N := 30) rfl ?_); (try (refine gate_guard (by rfl) ?_; dsimp only)); refine Kd.R_lit Kd.string _ 9 ?hg (N := 30) ?hd (xs := ([a0, a3, a4] : List ByteArray)) (inner := [.string a0, .string a3, .string a4]) (ok := fun _ => True) (okp := fun _ => True) ?hr ?hp (fun _ hk => hk) trivial (Below.refl _ _) (Nat.le_refl _) (by simp) ?_; (case hd => rfl); (case hg => rfl); (case hr => first | (go_simp; done) | (go_simp; rfl)); (case hp => exact (Reps.one (show Kd.M Kd.string _ _ _ a0 [.string a0] from rfl) (Reps.one (show Kd.M Kd.string _ _ _ a3 [.string a3] from rfl) (Reps.one (show Kd.M Kd.string _ _ _ a4 [.string a4] from rfl) (Reps.none _ _))))); intro v103 w17 ho18 hb hg_ hnew_; clear hg_ hnew_; (first | rw [← Ny102.out] at ho18 | (simp only [Int.reduceToNat] at ho18; rw [← Ny102.out] at ho18)); have n0_ := Aside0.mk (Kd.R_lower ho18 (below_size (by repeat (first | (with_reducible first | exact HB.out | apply below_alloc | apply pw_below_drewN | apply below_drew1) | exact HB.out)))); have n1_ := Aside0.mk (below_step (by repeat (first | (with_reducible first | exact HB.out | apply below_alloc | apply pw_below_drewN | apply below_drew1) | exact HB.out)) hb); clear HB; have HO104 := n0_; have HB := n1_; clear n0_ n1_; clear hb ho18; obtain ⟨Ao19, co19, eo19⟩ := Kd.R_slice HO104.out; subst eo19) | ((with_reducible refine gate_callee (f := 26) rfl ?_); refine goesL_ (some 31) rfl rfl Tryd.func26 (by kernel_rfl) rfl #[.slice Ao19 y102.length co19] rfl (by (try simp only [List.map_toArray, List.map_cons, List.map_nil]); first | done | rfl | (simp only [List.length_drop, List.length_take]; rfl)) ?_; (with_reducible refine (planispherelaw02_short.callsB _ _ y102 true _ ?side1 ?side2 A13.out).mono ?_); clear A13; (case side1 => repeat (first | exact (Kd.R_reads' HO104.out).2.2 | (with_reducible refine Kd.C_alloc ?_ _) | (with_reducible refine Kd.C_drewN ?_ _) | (with_reducible refine Kd.C_drew ?_))); (case side2 => exact (Kd.R_reads' HO104.out).2.1); rintro e w20 ⟨rfl, hb⟩; refine ⟨_, rfl, ?_⟩; have n0_ := Aside0.mk (Kd.R_below (by (with_reducible repeat (first | apply Kd.R_alloc | apply Kd.R_drewN | apply Kd.R_drew)); exact HO104.out) hb); have n1_ := Aside0.mk (below_step (by repeat (first | (with_reducible first | exact HB.out | apply below_alloc | apply pw_below_drewN | apply below_drew1) | exact HB.out)) hb); clear HO104; clear HB; have HO104 := n0_; have HB := n1_; clear n0_ n1_; (try clear hb); (try clear hb2); (try clear hk); (try clear hi)) | (go_at_call 18; (with_reducible refine (planisphereref01_Sum.callsB a3 t106 _ A15.out).mono ?_); clear A15; rintro e w21 ⟨rfl, hb⟩; have n0_ := Aside0.mk (Kd.R_below (by (with_reducible repeat (first | apply Kd.R_alloc | apply Kd.R_drewN | apply Kd.R_drew)); exact HO104.out) hb); have n1_ := Aside0.mk (below_step (by repeat (first | (with_reducible first | exact HB.out | apply below_alloc | apply pw_below_drewN | apply below_drew1) | exact HB.out)) hb); clear HO104; clear HB; have HO104 := n0_; have HB := n1_; clear n0_ n1_; (try clear hb); (try clear hb2); (try clear hk); (try clear hi)) | (go_at_call 18; (with_reducible refine (planisphereref01_Sum.callsB a4 t107 _ A16.out).mono ?_); clear A16; rintro e w22 ⟨rfl, hb⟩; have n0_ := Aside0.mk (Kd.R_below (by (with_reducible repeat (first | apply Kd.R_alloc | apply Kd.R_drewN | apply Kd.R_drew)); exact HO104.out) hb); have n1_ := Aside0.mk (below_step (by repeat (first | (with_reducible first | exact HB.out | apply below_alloc | apply pw_below_drewN | apply below_drew1) | exact HB.out)) hb); clear HO104; clear HB; have HO104 := n0_; have HB := n1_; clear n0_ n1_; (try clear hb); (try clear hb2); (try clear hk); (try clear hi)))
          go_meet
          case rel => exact ⟨_, ((t106.toList == t107.toList)), (by first | rfl | (simp; done) | (simp [*]; done)), H', ⟨by first | omega | exact Nat.le_refl _⟩, ⟨by repeat (first | (with_reducible first | exact HB.out | apply below_alloc | apply pw_below_drewN | apply below_drew1) | exact HB.out)⟩⟩
        · replace c14 := Bool.eq_false_iff.mpr c14
          subst c14
          have H1 : (planispherelaw02_SealBinds.j0 k a0 a3 a4 t101 ji7 (Int.tmod (wrap64 (a2)) (ji9)) true) = some r := by rw [if_neg (show ¬ (false = true) by decide)] at H; exact H
          clear H
          have H := H1
          clear H1
          have H' := Aside0.mk H
          clear H
          go_wp2_with (first | ((with_reducible refine gate_dst (N := 30) rfl ?_); (try (refine gate_guard (by rfl) ?_; dsimp only)); refine Kd.R_lit Kd.string _ 9 ?hg (N := 30) ?hd (xs := ([a0, a3, a4] : List ByteArray)) (inner := [.string a0, .string a3, .string a4]) (ok := fun _ => True) (okp := fun _ => True) ?hr ?hp (fun _ hk => hk) trivial (Below.refl _ _) (Nat.le_refl _) (by simp) ?_; (case hd => rfl); (case hg => rfl); (case hr => first | (go_simp; done) | (go_simp; rfl)); (case hp => exact (Reps.one (show Kd.M Kd.string _ _ _ a0 [.string a0] from rfl) (Reps.one (show Kd.M Kd.string _ _ _ a3 [.string a3] from rfl) (Reps.one (show Kd.M Kd.string _ _ _ a4 [.string a4] from rfl) (Reps.none _ _))))); intro v103 w23 ho24 hb hg_ hnew_; clear hg_ hnew_; (first | rw [← Ny102.out] at ho24 | (simp only [Int.reduceToNat] at ho24; rw [← Ny102.out] at ho24)); have n0_ := Aside0.mk (Kd.R_lower ho24 (below_size (by repeat (first | (with_reducible first | exact HB.out | apply below_alloc | apply pw_below_drewN | apply below_drew1) | exact HB.out)))); have n1_ := Aside0.mk (below_step (by repeat (first | (with_reducible first | exact HB.out | apply below_alloc | apply pw_below_drewN | apply below_drew1) | exact HB.out)) hb); clear HB; have HO104 := n0_; have HB := n1_; clear n0_ n1_; clear hb ho24; obtain ⟨Ao25, co25, eo25⟩ := Kd.R_slice HO104.out; subst eo25) | ((with_reducible refine gate_callee (f := 26) rfl ?_); refine goesL_ (some 31) rfl rfl Tryd.func26 (by kernel_rfl) rfl #[.slice Ao25 y102.length co25] rfl (by (try simp only [List.map_toArray, List.map_cons, List.map_nil]); first | done | rfl | (simp only [List.length_drop, List.length_take]; rfl)) ?_; (with_reducible refine (planispherelaw02_short.callsB _ _ y102 false _ ?side1 ?side2 A13.out).mono ?_); clear A13; (case side1 => repeat (first | exact (Kd.R_reads' HO104.out).2.2 | (with_reducible refine Kd.C_alloc ?_ _) | (with_reducible refine Kd.C_drewN ?_ _) | (with_reducible refine Kd.C_drew ?_))); (case side2 => exact (Kd.R_reads' HO104.out).2.1); rintro e w26 ⟨rfl, hb⟩; refine ⟨_, rfl, ?_⟩; have n0_ := Aside0.mk (Kd.R_below (by (with_reducible repeat (first | apply Kd.R_alloc | apply Kd.R_drewN | apply Kd.R_drew)); exact HO104.out) hb); have n1_ := Aside0.mk (below_step (by repeat (first | (with_reducible first | exact HB.out | apply below_alloc | apply pw_below_drewN | apply below_drew1) | exact HB.out)) hb); clear HO104; clear HB; have HO104 := n0_; have HB := n1_; clear n0_ n1_; (try clear hb); (try clear hb2); (try clear hk); (try clear hi)))
          go_meet
          case rel => exact ⟨_, (true), (by first | rfl | (simp; done) | (simp [*]; done)), H', ⟨by first | omega | exact Nat.le_refl _⟩, ⟨by repeat (first | (with_reducible first | exact HB.out | apply below_alloc | apply pw_below_drewN | apply below_drew1) | exact HB.out)⟩⟩
      case rest =>
        clear HC11
        try clear c1
        try clear c2
        try clear p2
        try clear p6
        try clear c8
        try clear c8b0
        try clear c8b1
        try clear c10
        try clear c10b0
        try clear c10b1
        try clear c11
        try clear c14
        try clear c25
        try clear c26
        obtain ⟨kq, x39_10, rfl, HA, HJ10, HB⟩ := hcut
        cases kq with
        | zero => exact absurd HA.out (by simp [planispherelaw02_SealBinds.j0])
        | succ kj10 =>
          have H := HA.out
          clear HA
          simp only [planispherelaw02_SealBinds.j0] at H
          by_cases c27 : x39_10 = true
          · subst c27
            have H1 : (some t101) = some r := by rw [if_pos rfl] at H; exact H
            clear H
            have H := H1
            clear H1
            obtain rfl := Option.some.inj H
            go_wp2
            go_ret
            exact ⟨by first | rfl | (simp [errW_none, errW_some] <;> rfl) | (simp only [← hji7, ← hji9]; first | rfl | (simp [errW_none, errW_some] <;> rfl)) | (simp [*, errW_none, errW_some] <;> rfl), by repeat (first | (with_reducible first | exact HB.out | apply below_alloc | apply pw_below_drewN | apply below_drew1) | exact HB.out)⟩
          · replace c27 := Bool.eq_false_iff.mpr c27
            subst c27
            have H1 : ((seal_Public.f a0 ji7).bind fun bt108 => ((seal_Sign.f a0 ji7 (Int.tmod (wrap64 (a2)) (ji9)) a3).bind fun bt110 => (if bt108.2 = 0 then (planispherelaw02_SealBinds.j1 kj10 a0 a4 t101 ji7 bt108.1 (bt110.2.2.2 != 0) bt110.1 bt110.2.1 bt110.2.2.1) else (planispherelaw02_SealBinds.j1 kj10 a0 a4 t101 ji7 bt108.1 true bt110.1 bt110.2.1 bt110.2.2.1)))) = some r := by rw [if_neg (show ¬ (false = true) by decide)] at H; exact H
            clear H
            have H := H1
            clear H1
            replace H := Option.bind_eq_some_iff.mp H
            obtain ⟨⟨t108, t109⟩, A280, H⟩ := H
            replace H : ((seal_Sign.f a0 ji7 (Int.tmod (wrap64 (a2)) (ji9)) a3).bind fun bt110 => (if t109 = 0 then (planispherelaw02_SealBinds.j1 kj10 a0 a4 t101 ji7 t108 (bt110.2.2.2 != 0) bt110.1 bt110.2.1 bt110.2.2.1) else (planispherelaw02_SealBinds.j1 kj10 a0 a4 t101 ji7 t108 true bt110.1 bt110.2.1 bt110.2.2.1))) = some r := H
            have A28 := Aside0.mk A280
            clear A280
            replace H := Option.bind_eq_some_iff.mp H
            obtain ⟨⟨t110, t111, t114, t117⟩, A290, H⟩ := H
            replace H : (if t109 = 0 then (planispherelaw02_SealBinds.j1 kj10 a0 a4 t101 ji7 t108 (t117 != 0) t110 t111 t114) else (planispherelaw02_SealBinds.j1 kj10 a0 a4 t101 ji7 t108 true t110 t111 t114)) = some r := H
            have A29 := Aside0.mk A290
            clear A290
            have HC30 := Aside0.mk H
            clear H
            go_upto_region 8 with (first | ((with_reducible refine gate_callee (f := 28) rfl ?_); refine goesL_ (some 44) rfl rfl Tryd.func28 (by kernel_rfl) rfl #[.string a0, .int .i64 ji7] rfl (by (try simp only [List.map_toArray, List.map_cons, List.map_nil]); first | done | (simp only [hji7]; rfl) | rfl | (simp only [List.length_drop, List.length_take]; rfl)) ?_; (with_reducible refine (seal_Public.calls a0 ji7 t108 t109 _ A28.out (hG := ?hGl)).mono ?_); clear A28; (case hGl => exact (Glob.below HG_.out (by repeat (first | (with_reducible first | exact HB.out | apply below_alloc | apply pw_below_drewN | apply below_drew1) | exact HB.out)))); rintro e w31 ⟨rfl, hb⟩; refine ⟨_, rfl, ?_⟩; have n0_ := Aside0.mk (below_step (by repeat (first | (with_reducible first | exact HB.out | apply below_alloc | apply pw_below_drewN | apply below_drew1) | exact HB.out)) hb); clear HB; have HB := n0_; clear n0_; (try clear hb); (try clear hb2); (try clear hk); (try clear hi)) | ((with_reducible refine gate_callee (f := 30) rfl ?_); refine goesL_ (some 52) rfl rfl Tryd.func30 (by kernel_rfl) rfl #[.string a0, .int .i64 ji7, .int .i64 (Int.tmod (wrap64 (a2)) (ji9)), .string a3] rfl (by (try simp only [List.map_toArray, List.map_cons, List.map_nil]); first | done | (simp only [hji7, hji9]; rfl) | rfl | (simp only [List.length_drop, List.length_take]; rfl)) ?_; (with_reducible refine (seal_Sign.calls a0 ji7 (Int.tmod (wrap64 (a2)) (ji9)) a3 t110 t111 t114 t117 _ A29.out (hG := ?hGl)).mono ?_); clear A29; (case hGl => exact (Glob.below HG_.out (by repeat (first | (with_reducible first | exact HB.out | apply below_alloc | apply pw_below_drewN | apply below_drew1) | exact HB.out)))); rintro e w32 ⟨v112, v115, rfl, ho0, ho1, hb⟩; refine ⟨_, rfl, ?_⟩; have n0_ := Aside0.mk (Kd.R_lower ho0 (below_size (by repeat (first | (with_reducible first | exact HB.out | apply below_alloc | apply pw_below_drewN | apply below_drew1) | exact HB.out)))); have n1_ := Aside0.mk (Kd.R_lower ho1 (below_size (by repeat (first | (with_reducible first | exact HB.out | apply below_alloc | apply pw_below_drewN | apply below_drew1) | exact HB.out)))); have n2_ := Aside0.mk (below_step (by repeat (first | (with_reducible first | exact HB.out | apply below_alloc | apply pw_below_drewN | apply below_drew1) | exact HB.out)) hb); clear HB; have HO113 := n0_; have HO116 := n1_; have HB := n2_; clear n0_ n1_ n2_; (try clear hb); (try clear hb2); (try clear hk); (try clear hi); (try clear ho0); (try clear ho1)) | ((with_reducible refine gate_dst (N := 16) rfl ?_); (try (refine gate_guard (by rfl) ?_; dsimp only)); refine box_event ?hg (N := 16) ?hd (cs := #[.int .i64 0, .slice none 0 0, .slice none 0 0]) (t := 35) ?hr ?_; (case hd => rfl); (case hg => rfl); (case hr => first | (go_simp; done) | (go_simp; rfl)); intro gb118 hg w33 hbox hb; have n0_ := Aside0.mk (Kd.R_below (by (with_reducible repeat (first | apply Kd.R_alloc | apply Kd.R_drewN | apply Kd.R_drew)); exact HO113.out) hb); have n1_ := Aside0.mk (Kd.R_below (by (with_reducible repeat (first | apply Kd.R_alloc | apply Kd.R_drewN | apply Kd.R_drew)); exact HO116.out) hb); have n2_ := Aside0.mk (below_step (by repeat (first | (with_reducible first | exact HB.out | apply below_alloc | apply pw_below_drewN | apply below_drew1) | exact HB.out)) hb); have n3_ := Aside0.mk (hbox); have n4_ := Aside0.mk ((by rw [hg]; exact (below_size (by repeat (first | (with_reducible first | exact HB.out | apply below_alloc | apply pw_below_drewN | apply below_drew1) | exact HB.out))) : w.heap.size ≤ gb118)); have n5_ := Aside0.mk ((by rw [hg]; exact (below_size (by repeat (first | (with_reducible first | exact HB.out | apply below_alloc | apply pw_below_drewN | apply below_drew1) | exact HB.out))) : w.heap.size ≤ gb118)); clear HO113; clear HO116; clear HB; have HO113 := n0_; have HO116 := n1_; have HB := n2_; have BK118 := n3_; have GW118 := n4_; have GE118 := n5_; clear n0_ n1_ n2_ n3_ n4_ n5_; clear hb hbox hg; have hcz34_0 : w33.cell? ⟨gb118, 0, none⟩ = some (.int .i64 0) := (blk_cell BK118.out 0).trans rfl; have hcz34_1 : w33.cell? ⟨gb118, 1, none⟩ = some (.slice none 0 0) := (blk_cell BK118.out 1).trans rfl; have hcz34_2 : w33.cell? ⟨gb118, 2, none⟩ = some (.slice none 0 0) := (blk_cell BK118.out 2).trans rfl; have hfz34_0 := blk_frozen BK118.out 0; have hfz34_1 := blk_frozen BK118.out 1; have hfz34_2 := blk_frozen BK118.out 2; obtain ⟨Ao35, co35, eo35⟩ := Kd.R_slice HO113.out; subst eo35; obtain ⟨Ao36, co36, eo36⟩ := Kd.R_slice HO116.out; subst eo36))
            (try simp only [Act.put, List.setIfInBounds_toArray, List.set_cons_zero, List.set_cons_succ])
            go_cut [60] (fun v60 wc => ∃ (kq : Nat) (x60_29 : Bool), v60 = .bool x60_29 ∧ Aside0 (planispherelaw02_SealBinds.j1 kq a0 a4 t101 ji7 t108 x60_29 t110 t111 t114 = some r) ∧ Aside0 (kq ≤ kj10) ∧ Aside0 (Kd.R Kd.string 9 wc w.heap.size (fun k_ => some k_ ≠ ((.slice Ao36 t114.length co36) : Value).ownBlock) (.slice Ao35 t111.length co35) t111) ∧ Aside0 (Kd.R Kd.string 9 wc w.heap.size (fun k_ => some k_ ≠ ((.slice Ao35 t111.length co35) : Value).ownBlock) (.slice Ao36 t114.length co36) t114) ∧ Aside0 (wc.heap[gb118]? = some (.cells #[.int .i64 t110, (.slice Ao35 t111.length co35), (.slice Ao36 t114.length co36)] 35 (0, 0))) ∧ Aside0 (Below w.heap.size w wc))
            case first =>
              have H := HC30.out
              clear HC30
              by_cases c37 : t109 = 0
              · rw [if_pos c37] at H
                have c37b0 : (t109 == 0) = true := beq_iff_eq.mpr c37
                have c37b1 : (t109 != 0) = false := bne_eq_false_iff_eq.mpr c37
                clear c37
                (first | rw [c37b0] | (simp only [i64_w, i32_w]; rw [c37b0]) | skip)
                have H' := Aside0.mk H
                clear H
                go_wp2
                go_meet
                case rel => exact ⟨_, ((t117 != 0)), (by first | rfl | (simp; done) | (simp [*]; done)), H', ⟨by have := HJ10.out; first | omega | exact Nat.le_refl _⟩, ⟨by (with_reducible repeat (first | apply Kd.R_alloc | apply Kd.R_drewN | apply Kd.R_drew)); exact Kd.R_mono (Kd.R_far (p := ⟨gb118, 2, none⟩) (Kd.R_far (p := ⟨gb118, 1, none⟩) (Kd.R_far (p := ⟨gb118, 0, none⟩) (Kd.R_types HO113.out BK118.out (by decide)) (fun _ hk => hk.2) (.int .i64 t110)) (fun _ hk => hk.2) (.slice Ao35 t111.length co35)) (fun _ hk => hk.2) (.slice Ao36 t114.length co36)) (fun _ hk => hk.1)⟩, ⟨by (with_reducible repeat (first | apply Kd.R_alloc | apply Kd.R_drewN | apply Kd.R_drew)); exact Kd.R_mono (Kd.R_far (p := ⟨gb118, 2, none⟩) (Kd.R_far (p := ⟨gb118, 1, none⟩) (Kd.R_far (p := ⟨gb118, 0, none⟩) (Kd.R_types HO116.out BK118.out (by decide)) (fun _ hk => hk.2) (.int .i64 t110)) (fun _ hk => hk.2) (.slice Ao35 t111.length co35)) (fun _ hk => hk.2) (.slice Ao36 t114.length co36)) (fun _ hk => hk.1)⟩, ⟨by (with_reducible repeat (first | refine blk_drewN ?_ _ | refine blk_drew ?_ | refine blk_alloc ?_ _)); refine blk_put (cs := #[.int .i64 t110, .slice Ao35 t111.length co35, .slice none 0 0]) ?_ 2 _ rfl; (with_reducible repeat (first | refine blk_drewN ?_ _ | refine blk_drew ?_ | refine blk_alloc ?_ _)); refine blk_put (cs := #[.int .i64 t110, .slice none 0 0, .slice none 0 0]) ?_ 1 _ rfl; (with_reducible repeat (first | refine blk_drewN ?_ _ | refine blk_drew ?_ | refine blk_alloc ?_ _)); refine blk_put (cs := #[.int .i64 0, .slice none 0 0, .slice none 0 0]) ?_ 0 _ rfl; (with_reducible repeat (first | refine blk_drewN ?_ _ | refine blk_drew ?_ | refine blk_alloc ?_ _)); exact BK118.out⟩, ⟨by repeat (first | (with_reducible first | exact HB.out | apply below_alloc | apply pw_below_drewN | apply below_drew1 | refine below_set ?_ GE118.out) | exact HB.out)⟩⟩
              · rw [if_neg c37] at H
                have c37b0 : (t109 == 0) = false := beq_eq_false_iff_ne.mpr c37
                have c37b1 : (t109 != 0) = true := bne_iff_ne.mpr c37
                (first | rw [c37b0] | (simp only [i64_w, i32_w]; rw [c37b0]) | skip)
                have H' := Aside0.mk H
                clear H
                go_wp2
                go_meet
                case rel => exact ⟨_, (true), (by first | rfl | (simp; done) | (simp [*]; done)), H', ⟨by have := HJ10.out; first | omega | exact Nat.le_refl _⟩, ⟨by (with_reducible repeat (first | apply Kd.R_alloc | apply Kd.R_drewN | apply Kd.R_drew)); exact Kd.R_mono (Kd.R_far (p := ⟨gb118, 2, none⟩) (Kd.R_far (p := ⟨gb118, 1, none⟩) (Kd.R_far (p := ⟨gb118, 0, none⟩) (Kd.R_types HO113.out BK118.out (by decide)) (fun _ hk => hk.2) (.int .i64 t110)) (fun _ hk => hk.2) (.slice Ao35 t111.length co35)) (fun _ hk => hk.2) (.slice Ao36 t114.length co36)) (fun _ hk => hk.1)⟩, ⟨by (with_reducible repeat (first | apply Kd.R_alloc | apply Kd.R_drewN | apply Kd.R_drew)); exact Kd.R_mono (Kd.R_far (p := ⟨gb118, 2, none⟩) (Kd.R_far (p := ⟨gb118, 1, none⟩) (Kd.R_far (p := ⟨gb118, 0, none⟩) (Kd.R_types HO116.out BK118.out (by decide)) (fun _ hk => hk.2) (.int .i64 t110)) (fun _ hk => hk.2) (.slice Ao35 t111.length co35)) (fun _ hk => hk.2) (.slice Ao36 t114.length co36)) (fun _ hk => hk.1)⟩, ⟨by (with_reducible repeat (first | refine blk_drewN ?_ _ | refine blk_drew ?_ | refine blk_alloc ?_ _)); refine blk_put (cs := #[.int .i64 t110, .slice Ao35 t111.length co35, .slice none 0 0]) ?_ 2 _ rfl; (with_reducible repeat (first | refine blk_drewN ?_ _ | refine blk_drew ?_ | refine blk_alloc ?_ _)); refine blk_put (cs := #[.int .i64 t110, .slice none 0 0, .slice none 0 0]) ?_ 1 _ rfl; (with_reducible repeat (first | refine blk_drewN ?_ _ | refine blk_drew ?_ | refine blk_alloc ?_ _)); refine blk_put (cs := #[.int .i64 0, .slice none 0 0, .slice none 0 0]) ?_ 0 _ rfl; (with_reducible repeat (first | refine blk_drewN ?_ _ | refine blk_drew ?_ | refine blk_alloc ?_ _)); exact BK118.out⟩, ⟨by repeat (first | (with_reducible first | exact HB.out | apply below_alloc | apply pw_below_drewN | apply below_drew1 | refine below_set ?_ GE118.out) | exact HB.out)⟩⟩
            case rest =>
              clear HC30
              try clear c1
              try clear c2
              try clear p2
              try clear c3
              try clear p6
              try clear c8
              try clear c8b0
              try clear c8b1
              try clear c10
              try clear c10b0
              try clear c10b1
              try clear c11
              try clear c14
              try clear c25
              try clear c26
              try clear c27
              try clear c28
              try clear c30
              try clear c37
              try clear c37b0
              try clear c37b1
              try clear hcz34_0
              try clear hcz34_1
              try clear hcz34_2
              try clear hfz34_0
              try clear hfz34_1
              try clear hfz34_2
              try clear p2
              try clear p6
              obtain ⟨kq, x60_29, rfl, HA, HJ29, HO_119001, HO_119002, BK118, HB⟩ := hcut
              cases kq with
              | zero => exact absurd HA.out (by simp [planispherelaw02_SealBinds.j1])
              | succ kj29 =>
                have H := HA.out
                clear HA
                simp only [planispherelaw02_SealBinds.j1] at H
                by_cases c38 : x60_29 = true
                · subst c38
                  have H1 : (some false) = some r := by rw [if_pos rfl] at H; exact H
                  clear H
                  have H := H1
                  clear H1
                  obtain rfl := Option.some.inj H
                  go_wp2
                  go_ret
                  exact ⟨by first | rfl | (simp [errW_none, errW_some] <;> rfl) | (simp only [← hji7, ← hji9]; first | rfl | (simp [errW_none, errW_some] <;> rfl)) | (simp [*, errW_none, errW_some] <;> rfl), by repeat (first | (with_reducible first | exact HB.out | apply below_alloc | apply pw_below_drewN | apply below_drew1 | refine below_set ?_ GE118.out) | exact HB.out)⟩
                · replace c38 := Bool.eq_false_iff.mpr c38
                  subst c38
                  have H1 : ((seal_Verify.f t108 a4 t110 t111 t114).bind fun t119 => (if t119 = true then (if t101 = true then ((planisphereref02_Made.f a0 ji7 30).bind fun t120 => ((planisphereref02_Checked.f a4 t110 t111 t114).bind fun t123 => (if t120.length + t123.length < 8796093022208 then ((planisphereref02_Shown.f (t120 ++ t123)).bind fun t129 => (some t129)) else (none)))) else (some false)) else (some t101))) = some r := by rw [if_neg (show ¬ (false = true) by decide)] at H; exact H
                  clear H
                  have H := H1
                  clear H1
                  replace H := Option.bind_eq_some_iff.mp H
                  obtain ⟨t119, A390, H⟩ := H
                  replace H : (if t119 = true then (if t101 = true then ((planisphereref02_Made.f a0 ji7 30).bind fun t120 => ((planisphereref02_Checked.f a4 t110 t111 t114).bind fun t123 => (if t120.length + t123.length < 8796093022208 then ((planisphereref02_Shown.f (t120 ++ t123)).bind fun t129 => (some t129)) else (none)))) else (some false)) else (some t101)) = some r := H
                  have A39 := Aside0.mk A390
                  clear A390
                  by_cases c40 : t119 = true
                  · subst c40
                    have H1 : (if t101 = true then ((planisphereref02_Made.f a0 ji7 30).bind fun t120 => ((planisphereref02_Checked.f a4 t110 t111 t114).bind fun t123 => (if t120.length + t123.length < 8796093022208 then ((planisphereref02_Shown.f (t120 ++ t123)).bind fun t129 => (some t129)) else (none)))) else (some false)) = some r := by rw [if_pos rfl] at H; exact H
                    clear H
                    have H := H1
                    clear H1
                    by_cases c41 : t101 = true
                    · subst c41
                      have H1 : ((planisphereref02_Made.f a0 ji7 30).bind fun t120 => ((planisphereref02_Checked.f a4 t110 t111 t114).bind fun t123 => (if t120.length + t123.length < 8796093022208 then ((planisphereref02_Shown.f (t120 ++ t123)).bind fun t129 => (some t129)) else (none)))) = some r := by rw [if_pos rfl] at H; exact H
                      clear H
                      have H := H1
                      clear H1
                      replace H := Option.bind_eq_some_iff.mp H
                      obtain ⟨t120, A420, H⟩ := H
                      replace H : ((planisphereref02_Checked.f a4 t110 t111 t114).bind fun t123 => (if t120.length + t123.length < 8796093022208 then ((planisphereref02_Shown.f (t120 ++ t123)).bind fun t129 => (some t129)) else (none))) = some r := H
                      have A42 := Aside0.mk A420
                      clear A420
                      replace H := Option.bind_eq_some_iff.mp H
                      obtain ⟨t123, A430, H⟩ := H
                      replace H : (if t120.length + t123.length < 8796093022208 then ((planisphereref02_Shown.f (t120 ++ t123)).bind fun t129 => (some t129)) else (none)) = some r := H
                      have A43 := Aside0.mk A430
                      clear A430
                      by_cases c44 : t120.length + t123.length < 8796093022208
                      · rw [if_pos c44] at H
                        have LMc44 := Aside0.mk c44
                        clear c44
                        obtain ⟨y126, hy126⟩ : ∃ y_ : List ByteArray, y_ = (t120 ++ t123) := ⟨_, rfl⟩
                        replace H : ((planisphereref02_Shown.f y126).bind fun t129 => (some t129)) = some r := by first | (rw [hy126]; with_reducible exact H) | (have H2_ := (Option.bind_some _ _).symm.trans H; rw [hy126]; with_reducible exact H2_) | (have H2_ := (Option.bind_some _ _).symm.trans H; with_reducible exact H2_) | with_reducible exact H | (rw [hy126]; exact H) | exact H
                        have Ny126 := Aside0.mk hy126
                        clear hy126
                        replace H := Option.bind_eq_some_iff.mp H
                        obtain ⟨t129, A450, H⟩ := H
                        replace H : (some t129) = some r := H
                        have A45 := Aside0.mk A450
                        clear A450
                        obtain rfl := Option.some.inj H
                        have hcz46_0 : wc.cell? ⟨gb118, 0, none⟩ = some (.int .i64 t110) := (blk_cell BK118.out 0).trans rfl
                        have hcz46_1 : wc.cell? ⟨gb118, 1, none⟩ = some (.slice Ao35 t111.length co35) := (blk_cell BK118.out 1).trans rfl
                        have hcz46_2 : wc.cell? ⟨gb118, 2, none⟩ = some (.slice Ao36 t114.length co36) := (blk_cell BK118.out 2).trans rfl
                        have hfz46_0 := blk_frozen BK118.out 0
                        have hfz46_1 := blk_frozen BK118.out 1
                        have hfz46_2 := blk_frozen BK118.out 2
                        try go_wp2_with (first | ((with_reducible refine gate_callee (f := 33) rfl ?_); refine goesL_ (some 64) rfl rfl Tryd.func33 (by kernel_rfl) rfl #[.string t108, .string a4, .agg #[.int .i64 t110, .slice Ao35 t111.length co35, .slice Ao36 t114.length co36]] rfl (by (try simp only [List.map_toArray, List.map_cons, List.map_nil]); first | done | rfl | (simp only [List.length_drop, List.length_take]; rfl)) ?_; (with_reducible refine (seal_Verify.calls t108 a4 t110 _ _ t111 _ _ t114 true _ ?side1 ?side2 ?side3 ?side4 A39.out (hG := ?hGl)).mono ?_); clear A39; (case hGl => exact (Glob.below HG_.out (by repeat (first | (with_reducible first | exact HB.out | apply below_alloc | apply pw_below_drewN | apply below_drew1) | exact HB.out)))); (case side1 => repeat (first | exact (Kd.R_reads' HO_119001.out).2.2 | (with_reducible refine Kd.C_alloc ?_ _) | (with_reducible refine Kd.C_drewN ?_ _) | (with_reducible refine Kd.C_drew ?_))); (case side2 => exact (Kd.R_reads' HO_119001.out).2.1); (case side3 => repeat (first | exact (Kd.R_reads' HO_119002.out).2.2 | (with_reducible refine Kd.C_alloc ?_ _) | (with_reducible refine Kd.C_drewN ?_ _) | (with_reducible refine Kd.C_drew ?_))); (case side4 => exact (Kd.R_reads' HO_119002.out).2.1); rintro e w47 ⟨rfl, hb⟩; refine ⟨_, rfl, ?_⟩; have n0_ := Aside0.mk (Kd.R_below (by (with_reducible repeat (first | apply Kd.R_alloc | apply Kd.R_drewN | apply Kd.R_drew)); exact HO_119001.out) hb); have n1_ := Aside0.mk (Kd.R_below (by (with_reducible repeat (first | apply Kd.R_alloc | apply Kd.R_drewN | apply Kd.R_drew)); exact HO_119002.out) hb); have n2_ := Aside0.mk (blk_below (g := gb118) (o := .cells #[.int .i64 t110, .slice Ao35 t111.length co35, .slice Ao36 t114.length co36] 35 (0, 0)) (by (with_reducible repeat (first | refine blk_drewN ?_ _ | refine blk_drew ?_ | refine blk_alloc ?_ _)); exact BK118.out) hb); have n3_ := Aside0.mk (below_step (by repeat (first | (with_reducible first | exact HB.out | apply below_alloc | apply pw_below_drewN | apply below_drew1 | refine below_set ?_ GE118.out) | exact HB.out)) hb); clear HO_119001; clear HO_119002; clear BK118; clear HB; have HO_119001 := n0_; have HO_119002 := n1_; have BK118 := n2_; have HB := n3_; clear n0_ n1_ n2_ n3_; (try clear hb); (try clear hb2); (try clear hk); (try clear hi)))
                        have n0_ := Aside0.mk (Kd.R_drew HO_119001.out)
                        have n1_ := Aside0.mk (Kd.R_drew HO_119002.out)
                        have n2_ := Aside0.mk (blk_drew BK118.out)
                        have n3_ := Aside0.mk (below_drew1 HB.out)
                        clear HO_119001
                        clear HO_119002
                        clear BK118
                        clear HB
                        have HO_119001 := n0_
                        have HO_119002 := n1_
                        have BK118 := n2_
                        have HB := n3_
                        clear n0_ n1_ n2_ n3_
                        refine start_ (n := 12) (S := fun w' => w'.cell? ⟨gb118, 0, none⟩ = some (.int .i64 t110) ∧ w'.cell? ⟨gb118, 1, none⟩ = some (.slice Ao35 t111.length co35) ∧ w'.cell? ⟨gb118, 2, none⟩ = some (.slice Ao36 t114.length co36)) (ds := []) #[false, false, false, false, false, false, false, false, false, false, false, false] (by kernel_rfl) rfl rfl ⟨(blk_cell BK118.out 0).trans rfl, (blk_cell BK118.out 1).trans rfl, (blk_cell BK118.out 2).trans rfl⟩ (fun hHeld => ?_); refine with_tabW planispherelaw02_SealBinds.tab12 planispherelaw02_SealBinds.bits12 (fun HT_ HW_ => ?_)
                        generalize w47.drew = w48 at HO_119001 HO_119002 BK118 HB hHeld ⊢
                        refine pure_ (i := 0) (N := some 67) (v := ?_) (a' := ?_) #[true, false, false, false, false, false, false, false, false, false, false, false] rfl rfl (any_of HT_.out (by kernel_rfl)) (fun _ _ _ h => h) (Or.inl ⟨by rfl, ?_⟩) ?_ ?_
                        rotate_left
                        · intro w'
                          first | (go_simp; with_reducible rfl) | (go_simp; rw [if_neg (by (have hone_ : ∀ b : UInt8, (ByteArray.mk #[b]).size = 1 := fun _ => rfl); (simp only [decide_eq_true_eq, ByteArray.size_extract, ByteArray.size_append, hone_] at *); omega)]; try with_reducible rfl)
                        rotate_left
                        · simp only [Act.put, List.setIfInBounds_toArray, List.set_cons_zero, List.set_cons_succ, i64_w, i32_w]
                          rfl
                        refine pure_ (i := 1) (N := some 68) (v := ?_) (a' := ?_) #[true, true, false, false, false, false, false, false, false, false, false, false] rfl rfl (any_of HT_.out (by kernel_rfl)) (fun _ _ _ h => h) (Or.inl ⟨by rfl, ?_⟩) ?_ ?_
                        rotate_left
                        · intro w'
                          first | (go_simp; with_reducible rfl) | (go_simp; rw [if_neg (by (have hone_ : ∀ b : UInt8, (ByteArray.mk #[b]).size = 1 := fun _ => rfl); (simp only [decide_eq_true_eq, ByteArray.size_extract, ByteArray.size_append, hone_] at *); omega)]; try with_reducible rfl)
                        rotate_left
                        · simp only [Act.put, List.setIfInBounds_toArray, List.set_cons_zero, List.set_cons_succ, i64_w, i32_w]
                          rfl
                        refine pure_ (i := 2) (N := some 69) (v := ?_) (a' := ?_) #[true, true, true, false, false, false, false, false, false, false, false, false] rfl rfl (any_of HT_.out (by kernel_rfl)) (fun _ _ _ h => h) (Or.inl ⟨by rfl, ?_⟩) ?_ ?_
                        rotate_left
                        · intro w'
                          first | (go_simp; with_reducible rfl) | (go_simp; rw [if_neg (by (have hone_ : ∀ b : UInt8, (ByteArray.mk #[b]).size = 1 := fun _ => rfl); (simp only [decide_eq_true_eq, ByteArray.size_extract, ByteArray.size_append, hone_] at *); omega)]; try with_reducible rfl)
                        rotate_left
                        · simp only [Act.put, List.setIfInBounds_toArray, List.set_cons_zero, List.set_cons_succ, i64_w, i32_w]
                          rfl
                        refine pure_ (i := 3) (N := some 70) (v := ?_) (a' := ?_) #[true, true, true, true, false, false, false, false, false, false, false, false] rfl rfl (any_of HT_.out (by kernel_rfl)) (fun _ _ _ h => h) (Or.inl ⟨by rfl, ?_⟩) ?_ ?_
                        rotate_left
                        · intro w'
                          first | (go_simp; with_reducible rfl) | (go_simp; rw [if_neg (by (have hone_ : ∀ b : UInt8, (ByteArray.mk #[b]).size = 1 := fun _ => rfl); (simp only [decide_eq_true_eq, ByteArray.size_extract, ByteArray.size_append, hone_] at *); omega)]; try with_reducible rfl)
                        rotate_left
                        · simp only [Act.put, List.setIfInBounds_toArray, List.set_cons_zero, List.set_cons_succ, i64_w, i32_w]
                          rfl
                        refine pure_ (i := 5) (N := some 72) (v := ?_) (a' := ?_) #[true, true, true, true, false, true, false, false, false, false, false, false] rfl rfl (any_of HT_.out (by kernel_rfl)) (fun _ _ _ h => h) (Or.inl ⟨by rfl, ?_⟩) ?_ ?_
                        rotate_left
                        · intro w'
                          first | (go_simp; with_reducible rfl) | (go_simp; rw [if_neg (by (have hone_ : ∀ b : UInt8, (ByteArray.mk #[b]).size = 1 := fun _ => rfl); (simp only [decide_eq_true_eq, ByteArray.size_extract, ByteArray.size_append, hone_] at *); omega)]; try with_reducible rfl)
                        rotate_left
                        · simp only [Act.put, List.setIfInBounds_toArray, List.set_cons_zero, List.set_cons_succ, i64_w, i32_w]
                          rfl
                        refine take_ (i := 6) (N := some 73) (v := ?_) (a' := ?_) #[true, true, true, true, false, true, true, false, false, false, false, false] rfl rfl (take_ofW HT_.out HW_.out (by kernel_rfl)) (fun _ _ _ h => h) (Or.inl ⟨by rfl, ?_⟩) hHeld ?_ ?_
                        rotate_left
                        · rintro w' ⟨s0, s1, s2⟩
                          go_simp
                          with_reducible rfl
                        rotate_left
                        · simp only [Act.put, List.setIfInBounds_toArray, List.set_cons_zero, List.set_cons_succ, i64_w, i32_w]
                          rfl
                        refine one_ (i := 4) (N := some 71) #[true, true, true, true, true, true, true, false, false, false, false, false] rfl rfl (one_of HT_.out (by kernel_rfl)) (by decide) (fun K hK => ?_)
                        refine goes_ Tryd.func36 (by kernel_rfl) rfl #[.string a0, .int .i64 ji7, .int .i64 30] (by rfl) rfl rfl (by (try simp only [List.map_toArray, List.map_cons, List.map_nil]); first | done | (simp only [hji7]; rfl) | rfl | (simp only [List.length_drop, List.length_take]; rfl)) ?_
                        with_reducible refine (planisphereref02_Made.calls a0 ji7 30 t120 _ A42.out).mono ?_
                        rintro e w49 ⟨v121, rfl, ho0, hb⟩
                        refine ⟨_, rfl, ?_⟩
                        have n0_ := Aside0.mk (Kd.R_elder' (by (with_reducible repeat (first | apply Kd.R_alloc | apply Kd.R_drewN | apply Kd.R_drew)); exact HO_119001.out) (Kd.R_base ho0) hb)
                        have n1_ := Aside0.mk (Kd.R_elder' (by (with_reducible repeat (first | apply Kd.R_alloc | apply Kd.R_drewN | apply Kd.R_drew)); exact HO_119002.out) (Kd.R_base ho0) hb)
                        have n2_ := Aside0.mk (Kd.R_lower (Kd.R_new' (Kd.R_new' ho0 (Kd.R_lt (by (with_reducible repeat (first | apply Kd.R_alloc | apply Kd.R_drewN | apply Kd.R_drew)); exact HO_119001.out))) (Kd.R_lt (by (with_reducible repeat (first | apply Kd.R_alloc | apply Kd.R_drewN | apply Kd.R_drew)); exact HO_119002.out))) (below_size (by repeat (first | (with_reducible first | exact HB.out | apply below_alloc | apply pw_below_drewN | apply below_drew1 | refine below_set ?_ GE118.out) | exact HB.out))))
                        have n3_ := Aside0.mk (blk_below (g := gb118) (o := .cells #[.int .i64 t110, .slice Ao35 t111.length co35, .slice Ao36 t114.length co36] 35 (0, 0)) (by (with_reducible repeat (first | refine blk_drewN ?_ _ | refine blk_drew ?_ | refine blk_alloc ?_ _)); exact BK118.out) hb)
                        have n4_ := Aside0.mk (below_step (by repeat (first | (with_reducible first | exact HB.out | apply below_alloc | apply pw_below_drewN | apply below_drew1 | refine below_set ?_ GE118.out) | exact HB.out)) hb)
                        clear HO_119001
                        clear HO_119002
                        clear BK118
                        clear HB
                        have HO_119001 := n0_
                        have HO_119002 := n1_
                        have HO122 := n2_
                        have BK118 := n3_
                        have HB := n4_
                        clear n0_ n1_ n2_ n3_ n4_
                        (try clear hb)
                        (try clear hb2)
                        (try clear hk)
                        (try clear hi)
                        (try clear ho0)
                        refine hK.out _ _ ⟨(blk_cell BK118.out 0).trans rfl, (blk_cell BK118.out 1).trans rfl, (blk_cell BK118.out 2).trans rfl⟩ (fun hHeld => ?_)
                        clear hK K
                        refine norm_ (a' := ?_) ?_ ?_
                        rotate_left
                        · show Act.put _ (some 71) _ = _
                          simp only [Act.put, List.setIfInBounds_toArray, List.set_cons_zero, List.set_cons_succ, i64_w, i32_w]
                          rfl
                        refine one_ (i := 7) (N := some 74) #[true, true, true, true, true, true, true, true, false, false, false, false] rfl rfl (one_of HT_.out (by kernel_rfl)) (by decide) (fun K hK => ?_)
                        refine goes_ Tryd.func37 (by kernel_rfl) rfl #[.string a4, .agg #[.int .i64 t110, .slice Ao35 t111.length co35, .slice Ao36 t114.length co36]] (by rfl) rfl rfl (by (try simp only [List.map_toArray, List.map_cons, List.map_nil]); first | done | rfl | (simp only [List.length_drop, List.length_take]; rfl)) ?_
                        with_reducible refine (planisphereref02_Checked.calls a4 t110 _ _ t111 _ _ t114 t123 _ ?side1 ?side2 ?side3 ?side4 A43.out).mono ?_
                        (case side1 => repeat (first | exact (Kd.R_reads' HO_119001.out).2.2 | (with_reducible refine Kd.C_alloc ?_ _) | (with_reducible refine Kd.C_drewN ?_ _) | (with_reducible refine Kd.C_drew ?_)))
                        (case side2 => exact (Kd.R_reads' HO_119001.out).2.1)
                        (case side3 => repeat (first | exact (Kd.R_reads' HO_119002.out).2.2 | (with_reducible refine Kd.C_alloc ?_ _) | (with_reducible refine Kd.C_drewN ?_ _) | (with_reducible refine Kd.C_drew ?_)))
                        (case side4 => exact (Kd.R_reads' HO_119002.out).2.1)
                        rintro e w50 ⟨v124, rfl, ho0, hb⟩
                        refine ⟨_, rfl, ?_⟩
                        have n0_ := Aside0.mk (Kd.R_elder' (by (with_reducible repeat (first | apply Kd.R_alloc | apply Kd.R_drewN | apply Kd.R_drew)); exact HO_119001.out) (Kd.R_base ho0) hb)
                        have n1_ := Aside0.mk (Kd.R_elder' (by (with_reducible repeat (first | apply Kd.R_alloc | apply Kd.R_drewN | apply Kd.R_drew)); exact HO_119002.out) (Kd.R_base ho0) hb)
                        have n2_ := Aside0.mk (Kd.R_elder' (by (with_reducible repeat (first | apply Kd.R_alloc | apply Kd.R_drewN | apply Kd.R_drew)); exact HO122.out) (Kd.R_base ho0) hb)
                        have n3_ := Aside0.mk (Kd.R_lower (Kd.R_new' (Kd.R_new' (Kd.R_new' ho0 (Kd.R_lt (by (with_reducible repeat (first | apply Kd.R_alloc | apply Kd.R_drewN | apply Kd.R_drew)); exact HO_119001.out))) (Kd.R_lt (by (with_reducible repeat (first | apply Kd.R_alloc | apply Kd.R_drewN | apply Kd.R_drew)); exact HO_119002.out))) (Kd.R_lt (by (with_reducible repeat (first | apply Kd.R_alloc | apply Kd.R_drewN | apply Kd.R_drew)); exact HO122.out))) (below_size (by repeat (first | (with_reducible first | exact HB.out | apply below_alloc | apply pw_below_drewN | apply below_drew1 | refine below_set ?_ GE118.out) | exact HB.out))))
                        have n4_ := Aside0.mk (blk_below (g := gb118) (o := .cells #[.int .i64 t110, .slice Ao35 t111.length co35, .slice Ao36 t114.length co36] 35 (0, 0)) (by (with_reducible repeat (first | refine blk_drewN ?_ _ | refine blk_drew ?_ | refine blk_alloc ?_ _)); exact BK118.out) hb)
                        have n5_ := Aside0.mk (below_step (by repeat (first | (with_reducible first | exact HB.out | apply below_alloc | apply pw_below_drewN | apply below_drew1 | refine below_set ?_ GE118.out) | exact HB.out)) hb)
                        clear HO_119001
                        clear HO_119002
                        clear HO122
                        clear BK118
                        clear HB
                        have HO_119001 := n0_
                        have HO_119002 := n1_
                        have HO122 := n2_
                        have HO125 := n3_
                        have BK118 := n4_
                        have HB := n5_
                        clear n0_ n1_ n2_ n3_ n4_ n5_
                        (try clear hb)
                        (try clear hb2)
                        (try clear hk)
                        (try clear hi)
                        (try clear ho0)
                        obtain ⟨Ao52, co52, eo52⟩ := Kd.R_slice HO125.out
                        (first | subst eo52 | (injection eo52 with f1_ f2_ f3_; have f4_ := f1_.symm; have f5_ := f3_.symm; clear f1_ f2_ f3_; subst f4_; subst f5_))
                        refine hK.out _ _ ⟨(blk_cell BK118.out 0).trans rfl, (blk_cell BK118.out 1).trans rfl, (blk_cell BK118.out 2).trans rfl⟩ (fun hHeld => ?_)
                        clear hK K
                        refine norm_ (a' := ?_) ?_ ?_
                        rotate_left
                        · show Act.put _ (some 74) _ = _
                          simp only [Act.put, List.setIfInBounds_toArray, List.set_cons_zero, List.set_cons_succ, i64_w, i32_w]
                          rfl
                        refine one_ (i := 8) (N := some 75) #[true, true, true, true, true, true, true, true, true, false, false, false] rfl rfl (one_of HT_.out (by kernel_rfl)) (by decide) (fun K hK => ?_)
                        refine Kd.R_append_rows_step Kd.string (w0 := w) w.heap.size (by rfl) (.tmp 71) (.tmp 74) 22 9 (.string ⟨#[]⟩) 16 rfl Tryd.underlying22 info9 rfl (by decide) (by omega) v121 t120 t123 _ _ _ (fun k_ => some k_ ≠ (.slice Ao35 t111.length co35 : Value).ownBlock ∧ some k_ ≠ (.slice Ao36 t114.length co36 : Value).ownBlock ∧ some k_ ≠ (.slice Ao52 t123.length co52 : Value).ownBlock) (fun _ => False) rfl rfl ?aO ?aR (fun _ _ h => h) (fun _ h => h.elim) ?aF ?aB ?aS ?aL ?_
                        (case aR => repeat (first | exact (Kd.R_reads' HO125.out).2.2 | (with_reducible refine Kd.C_alloc ?_ _) | (with_reducible refine Kd.C_drewN ?_ _) | (with_reducible refine Kd.C_drew ?_)))
                        (case aB => exact (by repeat (first | (with_reducible first | exact HB.out | apply below_alloc | apply pw_below_drewN | apply below_drew1 | refine below_set ?_ GE118.out) | exact HB.out)))
                        (case aF => exact (fun k_ hk => ⟨Kd.fresh' (Kd.R_lt (by (with_reducible repeat (first | apply Kd.R_alloc | apply Kd.R_drewN | apply Kd.R_drew)); exact HO_119001.out)) k_ hk, Kd.fresh' (Kd.R_lt (by (with_reducible repeat (first | apply Kd.R_alloc | apply Kd.R_drewN | apply Kd.R_drew)); exact HO_119002.out)) k_ hk, Kd.fresh' (Kd.R_lt (by (with_reducible repeat (first | apply Kd.R_alloc | apply Kd.R_drewN | apply Kd.R_drew)); exact HO125.out)) k_ hk⟩))
                        (case aO => exact (by (with_reducible repeat (first | apply Kd.R_alloc | apply Kd.R_drewN | apply Kd.R_drew)); exact Kd.R_mono HO122.out (fun _ hk => ⟨hk.1.1.2, ⟨hk.1.2, hk.2⟩⟩)))
                        (case aS => exact (below_size (by repeat (first | (with_reducible first | exact HB.out | apply below_alloc | apply pw_below_drewN | apply below_drew1 | refine below_set ?_ GE118.out) | exact HB.out))))
                        (case aL => have := LMc44.out; omega)
                        intro v127 w51 ho hb hg hat
                        rw [← Ny126.out] at ho
                        have n0_ := Aside0.mk (Kd.R_after (ok := (fun k_ => some k_ ≠ (.slice Ao36 t114.length co36 : Value).ownBlock ∧ some k_ ≠ (.slice Ao52 t123.length co52 : Value).ownBlock)) (by (with_reducible repeat (first | apply Kd.R_alloc | apply Kd.R_drewN | apply Kd.R_drew)); exact Kd.R_mono HO_119001.out (fun _ hk => ⟨⟨hk.1.1, hk.2⟩, hk.1.2⟩)) hg hat)
                        have n1_ := Aside0.mk (Kd.R_after (ok := (fun k_ => some k_ ≠ (.slice Ao35 t111.length co35 : Value).ownBlock ∧ some k_ ≠ (.slice Ao52 t123.length co52 : Value).ownBlock)) (by (with_reducible repeat (first | apply Kd.R_alloc | apply Kd.R_drewN | apply Kd.R_drew)); exact Kd.R_mono HO_119002.out (fun _ hk => ⟨⟨hk.1.1, hk.2⟩, hk.1.2⟩)) hg hat)
                        have n2_ := Aside0.mk (blk_grown (g := gb118) (o := .cells #[.int .i64 t110, .slice Ao35 t111.length co35, .slice Ao36 t114.length co36] 35 (0, 0)) (by (with_reducible repeat (first | refine blk_drewN ?_ _ | refine blk_drew ?_ | refine blk_alloc ?_ _)); exact BK118.out) hg (Kd.R_ne HO122.out BK118.out (by decide)))
                        have n3_ := Aside0.mk (Kd.R_after (ok := (fun k_ => some k_ ≠ (.slice Ao35 t111.length co35 : Value).ownBlock ∧ some k_ ≠ (.slice Ao36 t114.length co36 : Value).ownBlock)) (by (with_reducible repeat (first | apply Kd.R_alloc | apply Kd.R_drewN | apply Kd.R_drew)); exact Kd.R_mono HO125.out (fun _ hk => ⟨⟨hk.1.1.2, hk.1.2⟩, hk.2⟩)) hg hat)
                        have n4_ := Aside0.mk (hb)
                        have n5_ := Aside0.mk (ho)
                        clear HO_119001
                        clear HO_119002
                        clear BK118
                        clear HO125
                        clear HB
                        clear HO122
                        have HO_119001 := n0_
                        have HO_119002 := n1_
                        have BK118 := n2_
                        have HO125 := n3_
                        have HB := n4_
                        have HO128 := n5_
                        clear n0_ n1_ n2_ n3_ n4_ n5_
                        clear ho hb hg hat
                        obtain ⟨Ao53, co53, eo53⟩ := Kd.R_slice HO128.out
                        (first | subst eo53 | (injection eo53 with f1_ f2_ f3_; have f4_ := f1_.symm; have f5_ := f3_.symm; clear f1_ f2_ f3_; subst f4_; subst f5_))
                        refine hK.out _ _ ⟨(blk_cell BK118.out 0).trans rfl, (blk_cell BK118.out 1).trans rfl, (blk_cell BK118.out 2).trans rfl⟩ (fun hHeld => ?_)
                        clear hK K
                        refine norm_ (a' := ?_) ?_ ?_
                        rotate_left
                        · show Act.put _ (some 75) _ = _
                          simp only [Act.put, List.setIfInBounds_toArray, List.set_cons_zero, List.set_cons_succ, i64_w, i32_w]
                          rfl
                        refine one_ (i := 9) (N := some 76) #[true, true, true, true, true, true, true, true, true, true, false, false] rfl rfl (one_of HT_.out (by kernel_rfl)) (by decide) (fun K hK => ?_)
                        refine goes_ Tryd.func35 (by kernel_rfl) rfl #[.slice Ao53 y126.length co53] (by rfl) rfl rfl (by (try simp only [List.map_toArray, List.map_cons, List.map_nil]); first | done | rfl | (simp only [List.length_drop, List.length_take]; rfl)) ?_
                        with_reducible refine (planisphereref02_Shown.calls _ _ y126 t129 _ ?side1 ?side2 A45.out).mono ?_
                        (case side1 => repeat (first | exact (Kd.R_reads' HO128.out).2.2 | (with_reducible refine Kd.C_alloc ?_ _) | (with_reducible refine Kd.C_drewN ?_ _) | (with_reducible refine Kd.C_drew ?_)))
                        (case side2 => exact (Kd.R_reads' HO128.out).2.1)
                        rintro e w54 ⟨rfl, hb⟩
                        refine ⟨_, rfl, ?_⟩
                        have n0_ := Aside0.mk (Kd.R_below (by (with_reducible repeat (first | apply Kd.R_alloc | apply Kd.R_drewN | apply Kd.R_drew)); exact HO_119001.out) hb)
                        have n1_ := Aside0.mk (Kd.R_below (by (with_reducible repeat (first | apply Kd.R_alloc | apply Kd.R_drewN | apply Kd.R_drew)); exact HO_119002.out) hb)
                        have n2_ := Aside0.mk (Kd.R_below (by (with_reducible repeat (first | apply Kd.R_alloc | apply Kd.R_drewN | apply Kd.R_drew)); exact HO125.out) hb)
                        have n3_ := Aside0.mk (Kd.R_below (by (with_reducible repeat (first | apply Kd.R_alloc | apply Kd.R_drewN | apply Kd.R_drew)); exact HO128.out) hb)
                        have n4_ := Aside0.mk (blk_below (g := gb118) (o := .cells #[.int .i64 t110, .slice Ao35 t111.length co35, .slice Ao36 t114.length co36] 35 (0, 0)) (by (with_reducible repeat (first | refine blk_drewN ?_ _ | refine blk_drew ?_ | refine blk_alloc ?_ _)); exact BK118.out) hb)
                        have n5_ := Aside0.mk (below_step (by repeat (first | (with_reducible first | exact HB.out | apply below_alloc | apply pw_below_drewN | apply below_drew1 | refine below_set ?_ GE118.out) | exact HB.out)) hb)
                        clear HO_119001
                        clear HO_119002
                        clear HO125
                        clear HO128
                        clear BK118
                        clear HB
                        have HO_119001 := n0_
                        have HO_119002 := n1_
                        have HO125 := n2_
                        have HO128 := n3_
                        have BK118 := n4_
                        have HB := n5_
                        clear n0_ n1_ n2_ n3_ n4_ n5_
                        (try clear hb)
                        (try clear hb2)
                        (try clear hk)
                        (try clear hi)
                        refine hK.out _ _ ⟨(blk_cell BK118.out 0).trans rfl, (blk_cell BK118.out 1).trans rfl, (blk_cell BK118.out 2).trans rfl⟩ (fun hHeld => ?_)
                        clear hK K
                        refine norm_ (a' := ?_) ?_ ?_
                        rotate_left
                        · show Act.put _ (some 76) _ = _
                          simp only [Act.put, List.setIfInBounds_toArray, List.set_cons_zero, List.set_cons_succ, i64_w, i32_w]
                          rfl
                        refine pure_ (i := 10) (N := some 77) (v := ?_) (a' := ?_) #[true, true, true, true, true, true, true, true, true, true, true, false] rfl rfl (any_of HT_.out (by kernel_rfl)) (fun _ _ _ h => h) (Or.inl ⟨by rfl, ?_⟩) ?_ ?_
                        rotate_left
                        · intro w'
                          first | (go_simp; with_reducible rfl) | (go_simp; rw [if_neg (by (have hone_ : ∀ b : UInt8, (ByteArray.mk #[b]).size = 1 := fun _ => rfl); (simp only [decide_eq_true_eq, ByteArray.size_extract, ByteArray.size_append, hone_] at *); omega)]; try with_reducible rfl)
                        rotate_left
                        · simp only [Act.put, List.setIfInBounds_toArray, List.set_cons_zero, List.set_cons_succ, i64_w, i32_w]
                          rfl
                        refine pure_ (i := 11) (N := some 10) (v := ?_) (a' := ?_) #[true, true, true, true, true, true, true, true, true, true, true, true] rfl rfl (any_of HT_.out (by kernel_rfl)) (fun _ _ _ h => h) (Or.inl ⟨by rfl, ?_⟩) ?_ ?_
                        rotate_left
                        · intro w'
                          first | (go_simp; with_reducible rfl) | (go_simp; rw [if_neg (by (have hone_ : ∀ b : UInt8, (ByteArray.mk #[b]).size = 1 := fun _ => rfl); (simp only [decide_eq_true_eq, ByteArray.size_extract, ByteArray.size_append, hone_] at *); omega)]; try with_reducible rfl)
                        rotate_left
                        · simp only [Act.put, List.setIfInBounds_toArray, List.set_cons_zero, List.set_cons_succ, i64_w, i32_w]
                          rfl
                        refine done_ (done_of HT_.out (by kernel_rfl)) ?_
                        try go_wp2
                        go_ret
                        exact ⟨by first | rfl | (simp [errW_none, errW_some] <;> rfl) | (simp only [← hji7, ← hji9]; first | rfl | (simp [errW_none, errW_some] <;> rfl)) | (simp [*, errW_none, errW_some] <;> rfl), by repeat (first | (with_reducible first | exact HB.out | apply below_alloc | apply pw_below_drewN | apply below_drew1 | refine below_set ?_ GE118.out) | exact HB.out)⟩
                      · rw [if_neg c44] at H
                        exact absurd H (by simp)
                    · replace c41 := Bool.eq_false_iff.mpr c41
                      subst c41
                      have H1 : (some false) = some r := by rw [if_neg (show ¬ (false = true) by decide)] at H; exact H
                      clear H
                      have H := H1
                      clear H1
                      obtain rfl := Option.some.inj H
                      have hcz55_0 : wc.cell? ⟨gb118, 0, none⟩ = some (.int .i64 t110) := (blk_cell BK118.out 0).trans rfl
                      have hcz55_1 : wc.cell? ⟨gb118, 1, none⟩ = some (.slice Ao35 t111.length co35) := (blk_cell BK118.out 1).trans rfl
                      have hcz55_2 : wc.cell? ⟨gb118, 2, none⟩ = some (.slice Ao36 t114.length co36) := (blk_cell BK118.out 2).trans rfl
                      have hfz55_0 := blk_frozen BK118.out 0
                      have hfz55_1 := blk_frozen BK118.out 1
                      have hfz55_2 := blk_frozen BK118.out 2
                      try go_wp2_with (first | ((with_reducible refine gate_callee (f := 33) rfl ?_); refine goesL_ (some 64) rfl rfl Tryd.func33 (by kernel_rfl) rfl #[.string t108, .string a4, .agg #[.int .i64 t110, .slice Ao35 t111.length co35, .slice Ao36 t114.length co36]] rfl (by (try simp only [List.map_toArray, List.map_cons, List.map_nil]); first | done | rfl | (simp only [List.length_drop, List.length_take]; rfl)) ?_; (with_reducible refine (seal_Verify.calls t108 a4 t110 _ _ t111 _ _ t114 true _ ?side1 ?side2 ?side3 ?side4 A39.out (hG := ?hGl)).mono ?_); clear A39; (case hGl => exact (Glob.below HG_.out (by repeat (first | (with_reducible first | exact HB.out | apply below_alloc | apply pw_below_drewN | apply below_drew1) | exact HB.out)))); (case side1 => repeat (first | exact (Kd.R_reads' HO_119001.out).2.2 | (with_reducible refine Kd.C_alloc ?_ _) | (with_reducible refine Kd.C_drewN ?_ _) | (with_reducible refine Kd.C_drew ?_))); (case side2 => exact (Kd.R_reads' HO_119001.out).2.1); (case side3 => repeat (first | exact (Kd.R_reads' HO_119002.out).2.2 | (with_reducible refine Kd.C_alloc ?_ _) | (with_reducible refine Kd.C_drewN ?_ _) | (with_reducible refine Kd.C_drew ?_))); (case side4 => exact (Kd.R_reads' HO_119002.out).2.1); rintro e w56 ⟨rfl, hb⟩; refine ⟨_, rfl, ?_⟩; have n0_ := Aside0.mk (Kd.R_below (by (with_reducible repeat (first | apply Kd.R_alloc | apply Kd.R_drewN | apply Kd.R_drew)); exact HO_119001.out) hb); have n1_ := Aside0.mk (Kd.R_below (by (with_reducible repeat (first | apply Kd.R_alloc | apply Kd.R_drewN | apply Kd.R_drew)); exact HO_119002.out) hb); have n2_ := Aside0.mk (blk_below (g := gb118) (o := .cells #[.int .i64 t110, .slice Ao35 t111.length co35, .slice Ao36 t114.length co36] 35 (0, 0)) (by (with_reducible repeat (first | refine blk_drewN ?_ _ | refine blk_drew ?_ | refine blk_alloc ?_ _)); exact BK118.out) hb); have n3_ := Aside0.mk (below_step (by repeat (first | (with_reducible first | exact HB.out | apply below_alloc | apply pw_below_drewN | apply below_drew1 | refine below_set ?_ GE118.out) | exact HB.out)) hb); clear HO_119001; clear HO_119002; clear BK118; clear HB; have HO_119001 := n0_; have HO_119002 := n1_; have BK118 := n2_; have HB := n3_; clear n0_ n1_ n2_ n3_; (try clear hb); (try clear hb2); (try clear hk); (try clear hi)))
                      have n0_ := Aside0.mk (Kd.R_drew HO_119001.out)
                      have n1_ := Aside0.mk (Kd.R_drew HO_119002.out)
                      have n2_ := Aside0.mk (blk_drew BK118.out)
                      have n3_ := Aside0.mk (below_drew1 HB.out)
                      clear HO_119001
                      clear HO_119002
                      clear BK118
                      clear HB
                      have HO_119001 := n0_
                      have HO_119002 := n1_
                      have BK118 := n2_
                      have HB := n3_
                      clear n0_ n1_ n2_ n3_
                      refine start_ (n := 12) (S := fun w' => True) (ds := []) #[false, false, false, false, false, false, false, false, false, false, false, false] (by kernel_rfl) rfl rfl trivial (fun hHeld => ?_); refine with_tabW planispherelaw02_SealBinds.tab12 planispherelaw02_SealBinds.bits12 (fun HT_ HW_ => ?_)
                      generalize w56.drew = w57 at HO_119001 HO_119002 BK118 HB hHeld ⊢
                      refine pure_ (i := 0) (N := some 67) (v := ?_) (a' := ?_) #[true, false, false, false, false, false, false, false, false, false, false, false] rfl rfl (any_of HT_.out (by kernel_rfl)) (fun _ _ _ h => h) (Or.inl ⟨by rfl, ?_⟩) ?_ ?_
                      rotate_left
                      · intro w'
                        first | (go_simp; with_reducible rfl) | (go_simp; rw [if_neg (by (have hone_ : ∀ b : UInt8, (ByteArray.mk #[b]).size = 1 := fun _ => rfl); (simp only [decide_eq_true_eq, ByteArray.size_extract, ByteArray.size_append, hone_] at *); omega)]; try with_reducible rfl)
                      rotate_left
                      · simp only [Act.put, List.setIfInBounds_toArray, List.set_cons_zero, List.set_cons_succ, i64_w, i32_w]
                        rfl
                      refine pure_ (i := 1) (N := some 68) (v := ?_) (a' := ?_) #[true, true, false, false, false, false, false, false, false, false, false, false] rfl rfl (any_of HT_.out (by kernel_rfl)) (fun _ _ _ h => h) (Or.inl ⟨by rfl, ?_⟩) ?_ ?_
                      rotate_left
                      · intro w'
                        first | (go_simp; with_reducible rfl) | (go_simp; rw [if_neg (by (have hone_ : ∀ b : UInt8, (ByteArray.mk #[b]).size = 1 := fun _ => rfl); (simp only [decide_eq_true_eq, ByteArray.size_extract, ByteArray.size_append, hone_] at *); omega)]; try with_reducible rfl)
                      rotate_left
                      · simp only [Act.put, List.setIfInBounds_toArray, List.set_cons_zero, List.set_cons_succ, i64_w, i32_w]
                        rfl
                      refine pure_ (i := 2) (N := some 69) (v := undef) (a' := ?_) #[true, true, true, false, false, false, false, false, false, false, false, false] rfl rfl (any_of HT_.out (by kernel_rfl)) (fun _ _ _ h => h) (Or.inr ⟨by rfl, rfl⟩) ?_ ?_
                      rotate_left
                      · simp only [Act.put, List.setIfInBounds_toArray, List.set_cons_zero, List.set_cons_succ, i64_w, i32_w]
                        rfl
                      refine pure_ (i := 3) (N := some 70) (v := undef) (a' := ?_) #[true, true, true, true, false, false, false, false, false, false, false, false] rfl rfl (any_of HT_.out (by kernel_rfl)) (fun _ _ _ h => h) (Or.inr ⟨by rfl, rfl⟩) ?_ ?_
                      rotate_left
                      · simp only [Act.put, List.setIfInBounds_toArray, List.set_cons_zero, List.set_cons_succ, i64_w, i32_w]
                        rfl
                      refine pure_ (i := 4) (N := some 71) (v := undef) (a' := ?_) #[true, true, true, true, true, false, false, false, false, false, false, false] rfl rfl (any_of HT_.out (by kernel_rfl)) (fun _ _ _ h => h) (Or.inr ⟨by rfl, rfl⟩) ?_ ?_
                      rotate_left
                      · simp only [Act.put, List.setIfInBounds_toArray, List.set_cons_zero, List.set_cons_succ, i64_w, i32_w]
                        rfl
                      refine pure_ (i := 5) (N := some 72) (v := undef) (a' := ?_) #[true, true, true, true, true, true, false, false, false, false, false, false] rfl rfl (any_of HT_.out (by kernel_rfl)) (fun _ _ _ h => h) (Or.inr ⟨by rfl, rfl⟩) ?_ ?_
                      rotate_left
                      · simp only [Act.put, List.setIfInBounds_toArray, List.set_cons_zero, List.set_cons_succ, i64_w, i32_w]
                        rfl
                      refine pure_ (i := 6) (N := some 73) (v := undef) (a' := ?_) #[true, true, true, true, true, true, true, false, false, false, false, false] rfl rfl (any_of HT_.out (by kernel_rfl)) (fun _ _ _ h => h) (Or.inr ⟨by rfl, rfl⟩) ?_ ?_
                      rotate_left
                      · simp only [Act.put, List.setIfInBounds_toArray, List.set_cons_zero, List.set_cons_succ, i64_w, i32_w]
                        rfl
                      refine pure_ (i := 7) (N := some 74) (v := undef) (a' := ?_) #[true, true, true, true, true, true, true, true, false, false, false, false] rfl rfl (any_of HT_.out (by kernel_rfl)) (fun _ _ _ h => h) (Or.inr ⟨by rfl, rfl⟩) ?_ ?_
                      rotate_left
                      · simp only [Act.put, List.setIfInBounds_toArray, List.set_cons_zero, List.set_cons_succ, i64_w, i32_w]
                        rfl
                      refine pure_ (i := 8) (N := some 75) (v := undef) (a' := ?_) #[true, true, true, true, true, true, true, true, true, false, false, false] rfl rfl (any_of HT_.out (by kernel_rfl)) (fun _ _ _ h => h) (Or.inr ⟨by rfl, rfl⟩) ?_ ?_
                      rotate_left
                      · simp only [Act.put, List.setIfInBounds_toArray, List.set_cons_zero, List.set_cons_succ, i64_w, i32_w]
                        rfl
                      refine pure_ (i := 9) (N := some 76) (v := undef) (a' := ?_) #[true, true, true, true, true, true, true, true, true, true, false, false] rfl rfl (any_of HT_.out (by kernel_rfl)) (fun _ _ _ h => h) (Or.inr ⟨by rfl, rfl⟩) ?_ ?_
                      rotate_left
                      · simp only [Act.put, List.setIfInBounds_toArray, List.set_cons_zero, List.set_cons_succ, i64_w, i32_w]
                        rfl
                      refine pure_ (i := 10) (N := some 77) (v := ?_) (a' := ?_) #[true, true, true, true, true, true, true, true, true, true, true, false] rfl rfl (any_of HT_.out (by kernel_rfl)) (fun _ _ _ h => h) (Or.inl ⟨by rfl, ?_⟩) ?_ ?_
                      rotate_left
                      · intro w'
                        first | (go_simp; with_reducible rfl) | (go_simp; rw [if_neg (by (have hone_ : ∀ b : UInt8, (ByteArray.mk #[b]).size = 1 := fun _ => rfl); (simp only [decide_eq_true_eq, ByteArray.size_extract, ByteArray.size_append, hone_] at *); omega)]; try with_reducible rfl)
                      rotate_left
                      · simp only [Act.put, List.setIfInBounds_toArray, List.set_cons_zero, List.set_cons_succ, i64_w, i32_w]
                        rfl
                      refine pure_ (i := 11) (N := some 10) (v := ?_) (a' := ?_) #[true, true, true, true, true, true, true, true, true, true, true, true] rfl rfl (any_of HT_.out (by kernel_rfl)) (fun _ _ _ h => h) (Or.inl ⟨by rfl, ?_⟩) ?_ ?_
                      rotate_left
                      · intro w'
                        first | (go_simp; with_reducible rfl) | (go_simp; rw [if_neg (by (have hone_ : ∀ b : UInt8, (ByteArray.mk #[b]).size = 1 := fun _ => rfl); (simp only [decide_eq_true_eq, ByteArray.size_extract, ByteArray.size_append, hone_] at *); omega)]; try with_reducible rfl)
                      rotate_left
                      · simp only [Act.put, List.setIfInBounds_toArray, List.set_cons_zero, List.set_cons_succ, i64_w, i32_w]
                        rfl
                      refine done_ (done_of HT_.out (by kernel_rfl)) ?_
                      try go_wp2
                      go_ret
                      exact ⟨by first | rfl | (simp [errW_none, errW_some] <;> rfl) | (simp only [← hji7, ← hji9]; first | rfl | (simp [errW_none, errW_some] <;> rfl)) | (simp [*, errW_none, errW_some] <;> rfl), by repeat (first | (with_reducible first | exact HB.out | apply below_alloc | apply pw_below_drewN | apply below_drew1 | refine below_set ?_ GE118.out) | exact HB.out)⟩
                  · replace c40 := Bool.eq_false_iff.mpr c40
                    subst c40
                    have H1 : (some t101) = some r := by rw [if_neg (show ¬ (false = true) by decide)] at H; exact H
                    clear H
                    have H := H1
                    clear H1
                    obtain rfl := Option.some.inj H
                    have hcz58_0 : wc.cell? ⟨gb118, 0, none⟩ = some (.int .i64 t110) := (blk_cell BK118.out 0).trans rfl
                    have hcz58_1 : wc.cell? ⟨gb118, 1, none⟩ = some (.slice Ao35 t111.length co35) := (blk_cell BK118.out 1).trans rfl
                    have hcz58_2 : wc.cell? ⟨gb118, 2, none⟩ = some (.slice Ao36 t114.length co36) := (blk_cell BK118.out 2).trans rfl
                    have hfz58_0 := blk_frozen BK118.out 0
                    have hfz58_1 := blk_frozen BK118.out 1
                    have hfz58_2 := blk_frozen BK118.out 2
                    go_wp2_with (first | ((with_reducible refine gate_callee (f := 33) rfl ?_); refine goesL_ (some 64) rfl rfl Tryd.func33 (by kernel_rfl) rfl #[.string t108, .string a4, .agg #[.int .i64 t110, .slice Ao35 t111.length co35, .slice Ao36 t114.length co36]] rfl (by (try simp only [List.map_toArray, List.map_cons, List.map_nil]); first | done | rfl | (simp only [List.length_drop, List.length_take]; rfl)) ?_; (with_reducible refine (seal_Verify.calls t108 a4 t110 _ _ t111 _ _ t114 false _ ?side1 ?side2 ?side3 ?side4 A39.out (hG := ?hGl)).mono ?_); clear A39; (case hGl => exact (Glob.below HG_.out (by repeat (first | (with_reducible first | exact HB.out | apply below_alloc | apply pw_below_drewN | apply below_drew1) | exact HB.out)))); (case side1 => repeat (first | exact (Kd.R_reads' HO_119001.out).2.2 | (with_reducible refine Kd.C_alloc ?_ _) | (with_reducible refine Kd.C_drewN ?_ _) | (with_reducible refine Kd.C_drew ?_))); (case side2 => exact (Kd.R_reads' HO_119001.out).2.1); (case side3 => repeat (first | exact (Kd.R_reads' HO_119002.out).2.2 | (with_reducible refine Kd.C_alloc ?_ _) | (with_reducible refine Kd.C_drewN ?_ _) | (with_reducible refine Kd.C_drew ?_))); (case side4 => exact (Kd.R_reads' HO_119002.out).2.1); rintro e w59 ⟨rfl, hb⟩; refine ⟨_, rfl, ?_⟩; have n0_ := Aside0.mk (Kd.R_below (by (with_reducible repeat (first | apply Kd.R_alloc | apply Kd.R_drewN | apply Kd.R_drew)); exact HO_119001.out) hb); have n1_ := Aside0.mk (Kd.R_below (by (with_reducible repeat (first | apply Kd.R_alloc | apply Kd.R_drewN | apply Kd.R_drew)); exact HO_119002.out) hb); have n2_ := Aside0.mk (blk_below (g := gb118) (o := .cells #[.int .i64 t110, .slice Ao35 t111.length co35, .slice Ao36 t114.length co36] 35 (0, 0)) (by (with_reducible repeat (first | refine blk_drewN ?_ _ | refine blk_drew ?_ | refine blk_alloc ?_ _)); exact BK118.out) hb); have n3_ := Aside0.mk (below_step (by repeat (first | (with_reducible first | exact HB.out | apply below_alloc | apply pw_below_drewN | apply below_drew1 | refine below_set ?_ GE118.out) | exact HB.out)) hb); clear HO_119001; clear HO_119002; clear BK118; clear HB; have HO_119001 := n0_; have HO_119002 := n1_; have BK118 := n2_; have HB := n3_; clear n0_ n1_ n2_ n3_; (try clear hb); (try clear hb2); (try clear hk); (try clear hi)))
                    go_ret
                    exact ⟨by first | rfl | (simp [errW_none, errW_some] <;> rfl) | (simp only [← hji7, ← hji9]; first | rfl | (simp [errW_none, errW_some] <;> rfl)) | (simp [*, errW_none, errW_some] <;> rfl), by repeat (first | (with_reducible first | exact HB.out | apply below_alloc | apply pw_below_drewN | apply below_drew1 | refine below_set ?_ GE118.out) | exact HB.out)⟩
  · rw [if_neg c8] at H
    exact absurd H (by simp)
end Go.Proofs.YteleheamnighkaaDoor.PSBinds
end
section
set_option linter.unusedVariables false
set_option linter.unusedSimpArgs false
namespace Go.Proofs.YteleheamnighkaaDoor
open Go.RowKit Go.DoorKit Go.Proofs.YteleheamnighkaaDoorW.PrintWords
def Txts (L : List ByteArray) (x : Dig.Txt) : Prop := ofT x ∈ L
theorem ofT_inj {x y : Dig.Txt} (h : ofT x = ofT y) : x = y := by have := congrArg tx h; rwa [tx_ofT, tx_ofT] at this
theorem one_of_shown {L : List ByteArray} (h : shownB L = false) : Dig.One (Txts L) := by
  intro x y hx hy hs
  obtain ⟨i, hi, ei⟩ := List.getElem_of_mem hx
  obtain ⟨k, hk, ek⟩ := List.getElem_of_mem hy
  have ai : at0 L i = ofT x := by unfold at0; rw [List.getD_eq_getElem?_getD, List.getElem?_eq_getElem hi]; exact ei
  have ak : at0 L k = ofT y := by unfold at0; rw [List.getD_eq_getElem?_getD, List.getElem?_eq_getElem hk]; exact ek
  refine Decidable.byContradiction fun hne => ?_
  have hn : ofT x ≠ ofT y := fun e => hne (ofT_inj e)
  have hsum : sumB (ofT x) = sumB (ofT y) := by unfold sumB; rw [tx_ofT, tx_ofT, hs]
  by_cases hik : i = k
  · subst hik; exact hn (ai.symm.trans ak)
  · by_cases hlt : k < i
    · have : shownB L = true := shown_true hi hlt ⟨by rw [ai, ak]; exact hsum, by rw [ai, ak]; exact hn⟩
      rw [h] at this; cases this
    · have : shownB L = true := shown_true hk (show i < k by omega) ⟨by rw [ai, ak]; exact hsum.symm, by rw [ai, ak]; exact fun e => hn e.symm⟩
      rw [h] at this; cases this
theorem part_start (s : Dig.Txt) (i n : Nat) : ∀ (K k : Nat), k < K → ofT (Dig.startT s i k) ∈ partTo s i n K
  | 0, k, h => absurd h (by omega)
  | K + 1, k, h => by
    rw [partTo]
    by_cases e : k = K
    · subst e; exact List.mem_append_right _ (List.mem_cons_self)
    · exact List.mem_append_left _ (part_start s i n K k (by omega))
theorem mem_chained (t : Dig.Txt) (n j : Nat) (h : j < n) : ofT (Dig.chain t j) ∈ chainedB t n := by
  unfold chainedB
  exact List.mem_map.2 ⟨j, List.mem_range.2 h, rfl⟩
theorem part_chain (s : Dig.Txt) (i n : Nat) (j : Nat) (hj : j ≤ n) : ∀ (K k : Nat), k < K → ofT (Dig.chain (Dig.start0 s i k) j) ∈ partTo s i n K
  | 0, k, h => absurd h (by omega)
  | K + 1, k, h => by
    rw [partTo]
    by_cases e : k = K
    · subst e; exact List.mem_append_right _ (List.mem_cons_of_mem _ (mem_chained _ _ _ (by omega)))
    · exact List.mem_append_left _ (part_chain s i n j hj K k (by omega))
theorem keys_part (s : Dig.Txt) (n : Nat) : ∀ (I i : Nat), i < I → ∀ x ∈ keyPart s n i, x ∈ keysTo s n I
  | 0, i, h, _, _ => absurd h (by omega)
  | I + 1, i, h, x, hx => by
    rw [keysTo]
    by_cases e : i = I
    · subst e; exact List.mem_append_right _ hx
    · exact List.mem_append_left _ (keys_part s n I i (by omega) x hx)
theorem nodes_mem (s : Dig.Txt) (j : Nat) : ∀ (M m : Nat), m < M → ofT (Dig.nodeT (Dig.tree s j (2 * m)) (Dig.tree s j (2 * m + 1))) ∈ nodesTo s j M
  | 0, m, h => absurd h (by omega)
  | M + 1, m, h => by
    rw [nodesTo]
    by_cases e : m = M
    · subst e; exact List.mem_append_right _ (List.mem_singleton.2 rfl)
    · exact List.mem_append_left _ (nodes_mem s j M m (by omega))
theorem levels_mem (s : Dig.Txt) (h : Nat) : ∀ (J j : Nat), j < J → ∀ x ∈ nodesTo s j (2 ^ (h - 1 - j)), x ∈ levelsTo s h J
  | 0, j, hj, _, _ => absurd hj (by omega)
  | J + 1, j, hj, x, hx => by
    rw [levelsTo]
    by_cases e : j = J
    · subst e; exact List.mem_append_right _ hx
    · exact List.mem_append_left _ (levels_mem s h J j (by omega) x hx)
section
variable {s : Dig.Txt} {h n : Nat}
theorem made_start {i k : Nat} (hi : i < 2 ^ h) (hk : k < 18) : ofT (Dig.startT s i k) ∈ madeL s h n :=
  List.mem_append_left _ (keys_part s n _ i hi _ (List.mem_append_left _ (part_start s i n 18 k hk)))
theorem made_chain {i k j : Nat} (hi : i < 2 ^ h) (hk : k < 18) (hj : j ≤ n) : ofT (Dig.chain (Dig.start0 s i k) j) ∈ madeL s h n :=
  List.mem_append_left _ (keys_part s n _ i hi _ (List.mem_append_left _ (part_chain s i n j hj 18 k hk)))
theorem made_key {i : Nat} (hi : i < 2 ^ h) : ofT (Dig.keyT s i) ∈ madeL s h n :=
  List.mem_append_left _ (keys_part s n _ i hi _ (List.mem_append_right _ (List.mem_singleton.2 rfl)))
theorem made_node {j m : Nat} (hj : j < h) (hm : m < 2 ^ (h - 1 - j)) : ofT (Dig.nodeT (Dig.tree s j (2 * m)) (Dig.tree s j (2 * m + 1))) ∈ madeL s h n :=
  List.mem_append_right _ (levels_mem s h h j hj _ (nodes_mem s j _ m hm))
end
theorem checked_key {m : Dig.Txt} {i : Nat} {l1 l2 : List ByteArray} : ofT (Dig.joined ((endsL l1 m).map tx)) ∈ checkedL m i l1 l2 :=
  List.mem_append_left _ (List.mem_append_right _ (List.mem_singleton.2 rfl))
theorem checked_climb {m : Dig.Txt} {i : Nat} {l1 l2 : List ByteArray} : ∀ x ∈ Dig.climbT (Dig.lst ((endsL l1 m).map tx)) i (l2.map tx), ofT x ∈ checkedL m i l1 l2 :=
  fun x hx => List.mem_append_right _ (List.mem_map.2 ⟨x, hx, rfl⟩)
theorem endsL_tx_len (l : List ByteArray) (m : Dig.Txt) : ((endsL l m).map tx).length = 18 := by rw [List.length_map, endsL_len]
theorem ends_at (l : List ByteArray) (m : Dig.Txt) (s : Dig.Txt) (i : Nat) (h : (endsL l m).map tx = Dig.endsOf s i) (k : Nat) (hk : k < 18) :
    Dig.chain (tx (l.getD k ByteArray.empty)) (15 - dAt m k) = Dig.chain (Dig.start0 s i k) 15 := by
  have h2 := congrArg (fun L : List Dig.Txt => L.getD k []) h
  simp only [List.getD_eq_getElem?_getD] at h2
  rw [← endsTo_all, endsTo, List.map_map, List.getElem?_map, List.getElem?_range hk, Dig.endsOf, List.getElem?_map, List.getElem?_range hk] at h2
  simp only [Option.map_some, Option.getD_some, Function.comp] at h2
  unfold endAt at h2
  rwa [tx_ofT] at h2
theorem sound {s : Dig.Txt} {h n : Nat} {m : Dig.Txt} {i : Nat} {l1 l2 : List ByteArray} (hT : Dig.One (Txts (madeL s h n ++ checkedL m i l1 l2)))
    (hi : i < 2 ^ l2.length) (hc : Dig.climb (Dig.lst ((endsL l1 m).map tx)) i (l2.map tx) = Dig.tree s h 0) :
    l2.length = h ∧ (endsL l1 m).map tx = Dig.endsOf s i ∧ l2 = pathL s i h := by
  have hc2 : Dig.climb (Dig.sum (Dig.joined ((endsL l1 m).map tx))) i (l2.map tx) = Dig.tree s h 0 := hc
  obtain ⟨e1, e2, e3, e4⟩ := Dig.climb_one hT (secret := s) (h := h) (fun i hi => List.mem_append_left _ (made_key hi)) (fun j m hj hm => List.mem_append_left _ (made_node hj hm)) (endsL_tx_len l1 m) (List.mem_append_right _ checked_key) i
    (l2.map tx).length (l2.map tx) h 0 rfl (Nat.le_refl _) (Nat.two_pow_pos _) (fun x hx => List.mem_append_right _ (checked_climb x hx)) hc2
  rw [List.length_map] at e1
  rw [e1] at hi
  rw [Nat.zero_mul, Nat.zero_add, Nat.mod_eq_of_lt hi] at e2 e4
  refine ⟨e1, e2, ?_⟩
  have := congrArg (List.map ofT) e4
  rw [List.map_map] at this
  have e5 : List.map (ofT ∘ tx) l2 = l2 := by
    rw [show (ofT ∘ tx : ByteArray → ByteArray) = id from funext fun b => ofT_tx b, List.map_id]
  rw [e5] at this
  rw [this]
  unfold Dig.pathOf pathL
  rw [List.map_map]; rfl
end Go.Proofs.YteleheamnighkaaDoor
end
section
set_option linter.unusedVariables false
set_option linter.unusedSimpArgs false
namespace Go.Proofs.YteleheamnighkaaDoor
open Go.RowKit Go.DoorKit Go.Proofs.YteleheamnighkaaDoorW.PrintWords
namespace Pure
theorem short3 (a b c : ByteArray) : planispherelaw02_short.f [a, b, c] = some (BaseFacts.shortT [a, b, c]) := if_pos (show (3 : Nat) ≤ 9223372036854775807 by decide)
theorem shortT_out {l : List ByteArray} (h : BaseFacts.shortT l = true) : ∀ x ∈ l, x.size ≤ 300 := by
  intro x hx
  unfold BaseFacts.shortT at h
  exact of_decide_eq_true (List.all_eq_true.1 h x hx)
theorem tmod3 (a : Int) (h : 0 ≤ a ∧ a ≤ 255) : ∃ n : Nat, n ≤ 2 ∧ Int.tmod (wrap64 a) 3 = (n : Int) := by
  obtain ⟨m, rfl⟩ := Int.eq_ofNat_of_zero_le h.1
  refine ⟨m % 3, by omega, ?_⟩
  have : wrap64 (m : Int) = (m : Int) := by unfold wrap64; omega
  rw [this, show (3 : Int) = ((3 : Nat) : Int) from rfl, BaseFacts.tmod_nat]
theorem u8_out {a : Int} (w : (Lit.int .u8 a).wf = true) : 0 ≤ a ∧ a ≤ 255 := by simpa [Lit.wf, IntKind.min, IntKind.max, IntKind.signed, IntKind.bits] using w
theorem pub_f (a0 : ByteArray) (n : Nat) (hs : a0.size ≤ 300) (hn : n ≤ 8) : seal_Public.f a0 n = some (ofT (Dig.tree (tx a0) n 0), 0) := by
  have h1 : seal_Public.f a0 n = some (publicR (tx a0) n) := if_pos (Nat.le_trans hs (by decide))
  rw [h1]
  unfold publicR
  rw [if_neg (by omega), Int.toNat_natCast]
theorem sign_f (a0 a3 : ByteArray) (a1 a2 : Int) (hs : a0.size ≤ 300) (hm : a3.size ≤ 300) : seal_Sign.f a0 a1 a2 a3 = some (signR (tx a0) a1 a2 (tx a3)) :=
  if_pos ⟨Nat.le_trans hs (by decide), Nat.le_trans hm (by decide)⟩
theorem sign_ok (a0 a3 : ByteArray) (n i : Nat) (hs : a0.size ≤ 300) (hm : a3.size ≤ 300) (hn : n ≤ 8) (hi : i < 2 ^ n) : seal_Sign.f a0 n i a3 = some ((i : Int), sigL (tx a0) i (tx a3), pathL (tx a0) i n, 0) := by
  rw [sign_f a0 a3 n i hs hm]
  unfold signR
  have hpow : (2 : Int) ^ n = ((2 ^ n : Nat) : Int) := by simp
  rw [if_neg, Int.toNat_natCast, Int.toNat_natCast]
  unfold signBad
  rw [Int.toNat_natCast, hpow]
  generalize 2 ^ n = P at *
  omega
theorem ver_f (a0 a1 : ByteArray) (i : Int) (l1 l2 : List ByteArray) (h : verIn a1 l1 l2) : seal_Verify.f a0 a1 i l1 l2 = some (verR a0 a1 i l1 l2) := if_pos h
theorem made_f (a0 : ByteArray) (n : Nat) (k : Nat) (hs : a0.size ≤ 300) (hn : n ≤ 3) (h1 : 15 ≤ k) (h2 : k ≤ 100) : planisphereref02_Made.f a0 n k = some (madeL (tx a0) n k) := by
  unfold planisphereref02_Made.f
  rw [if_pos ⟨Nat.le_trans hs (by decide), by omega, by omega, by omega, by omega⟩, Int.toNat_natCast, Int.toNat_natCast]
theorem made30 (a0 : ByteArray) (n : Nat) (hs : a0.size ≤ 300) (hn : n ≤ 3) : planisphereref02_Made.f a0 n 30 = some (madeL (tx a0) n 30) := made_f a0 n 30 hs hn (by decide) (by decide)
theorem chk_f (a0 : ByteArray) (i : Nat) (l1 l2 : List ByteArray) (hm : a0.size ≤ 300) (hi : i ≤ 4000) (h1 : l1.length = 18) (hz1 : ∀ s ∈ l1, s.size ≤ 100) (hz2 : ∀ s ∈ l2, s.size ≤ 100) (hl2 : l2.length ≤ 100) :
    planisphereref02_Checked.f a0 i l1 l2 = some (checkedL (tx a0) i l1 l2) := by
  unfold planisphereref02_Checked.f
  rw [if_pos ⟨Nat.le_trans hm (by decide), by omega, by omega, h1, hz1, fun s hs => Nat.le_trans (hz2 s hs) (by decide), hl2⟩, Int.toNat_natCast]
theorem keyPart_small (s : Dig.Txt) (hs : s.length ≤ 300) (n i : Nat) (hi : i ≤ 100) : ∀ x ∈ keyPart s n i, x.size ≤ 140737488355328 := by
  intro x hx
  rcases List.mem_append.1 hx with h | h
  · have : ∀ K, K ≤ 18 → ∀ x ∈ partTo s i n K, x.size ≤ 140737488355328 := by
      intro K
      induction K with
      | zero => intro _ x hx; cases hx
      | succ K ih =>
        intro hK x hx
        rw [partTo] at hx
        rcases List.mem_append.1 hx with h | h
        · exact ih (by omega) x h
        · rcases List.mem_cons.1 h with rfl | h
          · have := startT_need (ofT s) (i := i) (k := K) (by rw [size_ofT]; omega) (by omega) (by omega)
            rwa [tx_ofT] at this
          · unfold chainedB at h
            obtain ⟨j, _, rfl⟩ := List.mem_map.1 h
            rw [size_ofT, chain_len (start_len s i K)]; decide
    exact this 18 (Nat.le_refl _) x h
  · rw [List.mem_singleton.1 h]; exact keyT_size s i
theorem made_small (s : Dig.Txt) (hs : s.length ≤ 300) (h n : Nat) (hh : h ≤ 3) : ∀ x ∈ madeL s h n, x.size ≤ 140737488355328 := by
  intro x hx
  have hp8 : 2 ^ h ≤ 8 := Nat.le_trans (pow_le hh) (by decide)
  rcases List.mem_append.1 hx with hx | hx
  · have : ∀ I, I ≤ 100 → ∀ x ∈ keysTo s n I, x.size ≤ 140737488355328 := by
      intro I
      induction I with
      | zero => intro _ x hx; cases hx
      | succ I ih =>
        intro hI x hx
        rw [keysTo] at hx
        rcases List.mem_append.1 hx with h | h
        · exact ih (by omega) x h
        · exact keyPart_small s hs n I (by omega) x h
    exact this _ (by omega) x hx
  · have : ∀ J, ∀ x ∈ levelsTo s h J, x.size ≤ 140737488355328 := by
      intro J
      induction J with
      | zero => intro x hx; cases hx
      | succ J ih =>
        intro x hx
        rw [levelsTo] at hx
        rcases List.mem_append.1 hx with h1 | h1
        · exact ih x h1
        · have : ∀ M, ∀ x ∈ nodesTo s J M, x.size ≤ 140737488355328 := by
            intro M
            induction M with
            | zero => intro x hx; cases hx
            | succ M ih =>
              intro x hx
              rw [nodesTo] at hx
              rcases List.mem_append.1 hx with h2 | h2
              · exact ih x h2
              · rw [List.mem_singleton.1 h2]
                have := nodeT_size (ofT (Dig.tree s J (2 * M))) (ofT (Dig.tree s J (2 * M + 1))) (by rw [size_ofT, tree_len]; decide) (by rw [size_ofT, tree_len]; decide)
                rwa [tx_ofT, tx_ofT] at this
          exact this _ x h1
    exact this h x hx
theorem made_len (s : Dig.Txt) (h n : Nat) (hh : h ≤ 2) : (madeL s h n).length ≤ 4 * (18 * (n + 2) + 1) + 16 := by
  have hp : 2 ^ h ≤ 4 := Nat.le_trans (pow_le hh) (by decide)
  have h1 := keysTo_len s n (2 ^ h)
  have h2 := levelsTo_len s h (by omega) h (Nat.le_refl _)
  have h3 : 2 ^ h * (18 * (n + 2) + 1) ≤ 4 * (18 * (n + 2) + 1) := Nat.mul_le_mul hp (Nat.le_refl _)
  unfold madeL
  rw [List.length_append, h1]; omega
theorem climbT_small : ∀ (ps : List Dig.Txt) (X : Dig.Txt) (i : Nat), X.length ≤ 100 → (∀ p ∈ ps, p.length ≤ 100) → ∀ x ∈ Dig.climbT X i ps, (ofT x).size ≤ 140737488355328
  | [], _, _, _, _, x, hx => by cases hx
  | p :: ps, X, i, hX, hps, x, hx => by
    rw [Dig.climbT] at hx
    have hp := hps p (List.mem_cons_self)
    rcases List.mem_cons.1 hx with rfl | hx
    · have h1 := nodeT_size (ofT X) (ofT p) (by rw [size_ofT]; omega) (by rw [size_ofT]; omega)
      have h2 := nodeT_size (ofT p) (ofT X) (by rw [size_ofT]; omega) (by rw [size_ofT]; omega)
      rw [tx_ofT, tx_ofT] at h1 h2
      unfold Dig.stepT
      split
      · exact h2
      · exact h1
    · exact climbT_small ps _ _ (by rw [Dig.sum_len]; decide) (fun q hq => hps q (List.mem_cons_of_mem _ hq)) x hx
theorem climbT_len : ∀ (ps : List Dig.Txt) (X : Dig.Txt) (i : Nat), (Dig.climbT X i ps).length = ps.length
  | [], _, _ => rfl
  | p :: ps, X, i => by rw [Dig.climbT, List.length_cons, climbT_len ps, List.length_cons]
theorem checked_len (m : Dig.Txt) (i : Nat) (l1 l2 : List ByteArray) : (checkedL m i l1 l2).length ≤ 289 + l2.length := by
  have := chkTo_len l1 m 18
  unfold checkedL
  rw [List.length_append, List.length_append, List.length_map, climbT_len, List.length_map, List.length_singleton]; omega
theorem checked_small (m : Dig.Txt) (i : Nat) (l1 l2 : List ByteArray) (h1 : l1.length = 18) (hz1 : ∀ s ∈ l1, s.size ≤ 100) (hz2 : ∀ s ∈ l2, s.size ≤ 100) : ∀ x ∈ checkedL m i l1 l2, x.size ≤ 140737488355328 := by
  intro x hx
  unfold checkedL at hx
  rcases List.mem_append.1 hx with hx | hx
  · rcases List.mem_append.1 hx with hx | hx
    · have : ∀ K, K ≤ 18 → ∀ x ∈ chkTo l1 m K, x.size ≤ 140737488355328 := by
        intro K
        induction K with
        | zero => intro _ x hx; cases hx
        | succ K ih =>
          intro hK x hx
          rw [chkTo] at hx
          rcases List.mem_append.1 hx with h | h
          · exact ih (by omega) x h
          · unfold chainedB at h
            obtain ⟨j, _, rfl⟩ := List.mem_map.1 h
            rw [size_ofT]
            exact Nat.le_trans (chain_len' (by rw [tx_len]; exact hz1 _ (getD_mem (by omega)))) (by decide)
      exact this 18 (Nat.le_refl _) x hx
    · rw [List.mem_singleton.1 hx, size_ofT]
      have hE : need (endsL l1 m) ≤ 140737488355328 := by
        refine need_all 100 18 ?_ (by rw [endsL_len]; exact Nat.le_refl _) (by decide)
        intro s hs
        simp only [endsL, List.mem_map] at hs
        obtain ⟨j, _, rfl⟩ := hs
        unfold endAt
        rw [size_ofT]
        exact chain_len' (by rw [tx_len]; exact hz1 _ (getD_mem (by have := j.isLt; omega)))
      exact Nat.le_trans (joined_need _ hE) hE
  · obtain ⟨y, hy, rfl⟩ := List.mem_map.1 hx
    refine climbT_small _ _ _ ?_ ?_ y hy
    · show (Dig.sum _).length ≤ 100
      rw [Dig.sum_len]; decide
    · intro p hp
      obtain ⟨b, hb, rfl⟩ := List.mem_map.1 hp
      rw [tx_len]; exact hz2 b hb
theorem shown_f (L : List ByteArray) (h1 : L.length ≤ 4000) (h2 : ∀ x ∈ L, x.size ≤ 140737488355328) : planisphereref02_Shown.f L = some (shownB L) := if_pos ⟨h1, h2⟩
theorem ver_out {r msg : ByteArray} {i : Int} {l1 l2 : List ByteArray} (h : verR r msg i l1 l2 = true) : ∃ n : Nat, i = (n : Int) ∧ l1.length = 18 ∧ l2.length ≤ 8 ∧ oddB l1 = false ∧ oddB l2 = false ∧ n < 2 ^ l2.length ∧ r = ofT (Dig.climb (Dig.lst ((endsL l1 (tx msg)).map tx)) n (l2.map tx)) := by
  unfold verR at h
  by_cases hk : verOk i l1 l2
  · rw [if_pos hk] at h
    obtain ⟨h1, h2, h3, h4, h5, h6⟩ := hk
    obtain ⟨n, rfl⟩ := Int.eq_ofNat_of_zero_le h5
    rw [Int.toNat_natCast] at h
    unfold climbB at h
    exact ⟨n, rfl, h1, h2, h3, h4, by omega, (toList_eq.1 (beq_iff_eq.1 h)).symm⟩
  · rw [if_neg hk] at h; cases h
theorem tmod_pow (a : Int) (h : 0 ≤ a ∧ a ≤ 255) (n : Nat) (hn : n ≤ 3) : ∃ i : Nat, i < 2 ^ n ∧ Int.tmod (wrap64 a) (shl .i64 1 (n : Int)) = (i : Int) := by
  obtain ⟨m, rfl⟩ := Int.eq_ofNat_of_zero_le h.1
  refine ⟨m % 2 ^ n, Nat.mod_lt _ (Nat.two_pow_pos n), ?_⟩
  have : wrap64 (m : Int) = (m : Int) := by unfold wrap64; omega
  rw [this, shl_one n (by omega), BaseFacts.tmod_nat]
theorem shl_ne (n : Nat) (hn : n ≤ 3) : ¬ shl .i64 1 (n : Int) = 0 := by
  rw [shl_one n (by omega)]
  have := Nat.two_pow_pos n
  generalize 2 ^ n = P at *
  omega
end Pure
end Go.Proofs.YteleheamnighkaaDoor
end
section
set_option linter.unusedVariables false
set_option linter.unusedSimpArgs false
namespace Go.Proofs.YteleheamnighkaaDoor
open Go.RowKit Go.DoorKit Go.Proofs.YteleheamnighkaaDoorW.PrintWords
namespace Pure
theorem start_not (s : Dig.Txt) (i k : Nat) : Dig.isD (Dig.startT s i k) = false := by
  have hm : (58 : UInt8) ∈ Dig.startT s i k := by
    unfold Dig.startT
    rw [Dig.joined_cons]
    refine List.mem_append_left _ ?_
    unfold Dig.piece
    exact List.mem_append_right _ (List.mem_cons_self)
  unfold Dig.isD
  rw [Bool.and_eq_false_iff]
  right
  rw [List.all_eq_false]
  exact ⟨58, hm, by decide⟩
theorem no_loop {T : Dig.Txt → Prop} (hT : Dig.One T) {s : Dig.Txt} {i k : Nat} (hs : T (Dig.startT s i k)) (hc : ∀ j, j ≤ 30 → T (Dig.chain (Dig.start0 s i k) j)) {a b : Nat} (ha : a < b) (hb : b ≤ 30)
    (e : Dig.chain (Dig.start0 s i k) a = Dig.chain (Dig.start0 s i k) b) : False := by
  have e2 : Dig.chain (Dig.start0 s i k) a = Dig.chain (Dig.start0 s i k) ((b - a - 1 + 1) + a) := by rw [e]; congr 1; omega
  have h1 := Dig.chain_one hT a (fun j hj => hc j (by omega)) (fun j hj => hc j (by omega)) e2
  have h2 : Dig.sum (Dig.startT s i k) = Dig.sum (Dig.chain (Dig.start0 s i k) (b - a - 1)) := h1
  have h3 := hT _ _ hs (hc _ (by omega)) h2
  have h4 := start_not s i k
  rw [h3, isD_chain (t := Dig.start0 s i k) (isD_sum _)] at h4
  cases h4
theorem hexv_inj {c d : UInt8} (hc : Dig.isHex c = true) (hd : Dig.isHex d = true) (h : Dig.hexv c = Dig.hexv d) : c = d := by
  have : ∀ m n : Fin 256, Dig.isHex (UInt8.ofNat m.val) = true → Dig.isHex (UInt8.ofNat n.val) = true → Dig.hexv (UInt8.ofNat m.val) = Dig.hexv (UInt8.ofNat n.val) → m = n := by decide +kernel
  have h2 := this ⟨c.toNat, c.toNat_lt⟩ ⟨d.toNat, d.toNat_lt⟩
  rw [show UInt8.ofNat (⟨c.toNat, c.toNat_lt⟩ : Fin 256).val = c from UInt8.ofNat_toNat, show UInt8.ofNat (⟨d.toNat, d.toNat_lt⟩ : Fin 256).val = d from UInt8.ofNat_toNat] at h2
  have h3 := h2 hc hd h
  have h4 : c.toNat = d.toNat := congrArg Fin.val h3
  exact UInt8.toNat_inj.1 h4
theorem dAt_low (m : Dig.Txt) (k : Nat) (h : k < (Dig.sum m).length) : dAt m k = Dig.hexv ((Dig.sum m)[k]) := by
  unfold dAt Dig.digits
  dsimp only
  rw [List.getD_eq_getElem?_getD, List.getElem?_append_left (by rw [List.length_map]; exact h), List.getElem?_map, List.getElem?_eq_getElem h]; rfl
theorem sum_of_digits {m n : Dig.Txt} (h : ∀ k, k < 18 → dAt m k = dAt n k) : Dig.sum m = Dig.sum n := by
  have hm := Dig.sum_len m
  have hn := Dig.sum_len n
  refine List.ext_getElem (by rw [hm, hn]) fun k hk hk2 => ?_
  have h1 := h k (by omega)
  rw [dAt_low m k hk, dAt_low n k hk2] at h1
  exact hexv_inj (sum_hex m _ (List.getElem_mem hk)) (sum_hex n _ (List.getElem_mem hk2)) h1
theorem binds_one {s : Dig.Txt} {h i : Nat} {m m' : Dig.Txt} (hi : i < 2 ^ h) (hT : Dig.One (Txts (madeL s h 30 ++ checkedL m' i (sigL s i m) (pathL s i h))))
    (hc : Dig.climb (Dig.lst ((endsL (sigL s i m) m').map tx)) i ((pathL s i h).map tx) = Dig.tree s h 0) : Dig.sum m = Dig.sum m' := by
  obtain ⟨_, e2, _⟩ := sound hT (by rw [pathL_len]; exact hi) hc
  refine sum_of_digits fun k hk => ?_
  have h5 := ends_at (sigL s i m) m' s i e2 k hk
  rw [sig_get s i m k hk] at h5
  unfold sigAt at h5
  rw [tx_ofT, Dig.chain_add] at h5
  have d1 := dAt_le m k
  have d2 := dAt_le m' k
  have hs : Txts (madeL s h 30 ++ checkedL m' i (sigL s i m) (pathL s i h)) (Dig.startT s i k) := List.mem_append_left _ (made_start hi hk)
  have hch : ∀ j, j ≤ 30 → Txts (madeL s h 30 ++ checkedL m' i (sigL s i m) (pathL s i h)) (Dig.chain (Dig.start0 s i k) j) := fun j hj => List.mem_append_left _ (made_chain hi hk hj)
  refine Decidable.byContradiction fun hne => ?_
  by_cases hlt : dAt m k + (15 - dAt m' k) < 15
  · exact no_loop hT hs hch hlt (by omega) h5
  · exact no_loop hT hs hch (show 15 < dAt m k + (15 - dAt m' k) by omega) (by omega) h5.symm
theorem binds_pure (a0 : ByteArray) (h0 : a0.size ≤ 140737488351232) (a1 : Int) (w1 : (Lit.int .u8 a1).wf = true) (a2 : Int) (w2 : (Lit.int .u8 a2).wf = true) (a3 : ByteArray) (h3 : a3.size ≤ 140737488351232) (a4 : ByteArray) (h4 : a4.size ≤ 140737488351232) :
    ∃ k, PSBinds.planispherelaw02_SealBinds.f k a0 a1 a2 a3 a4 = some true := by
  refine ⟨2, ?_⟩
  obtain ⟨n, hn, en⟩ := tmod3 a1 (u8_out w1)
  obtain ⟨i, hi, ei⟩ := tmod_pow a2 (u8_out w2) n (by omega)
  unfold PSBinds.planispherelaw02_SealBinds.f planispherelaw02_head.f
  rw [Option.bind_some, en, if_pos (by omega), if_neg (shl_ne n (by omega)), short3, Option.bind_some, ei]
  by_cases hsh : BaseFacts.shortT [a0, a3, a4] = true
  · rw [if_pos hsh]
    have hs0 := shortT_out hsh a0 (by simp)
    have hs3 := shortT_out hsh a3 (by simp)
    have hs4 := shortT_out hsh a4 (by simp)
    rw [rSum a3 (by omega), Option.bind_some, rSum a4 (by omega), Option.bind_some]
    by_cases he : ((ofT (Dig.sum (tx a3))).toList == (ofT (Dig.sum (tx a4))).toList) = true
    · rw [he, PSBinds.planispherelaw02_SealBinds.j0, if_pos rfl]
    · have hne : Dig.sum (tx a3) ≠ Dig.sum (tx a4) := fun e => he (by rw [e]; exact beq_self_eq_true _)
      rw [PSBinds.planispherelaw02_SealBinds.j0, if_neg he, pub_f a0 n hs0 (by omega), Option.bind_some, sign_ok a0 a3 n i hs0 hs3 (by omega) hi, Option.bind_some, if_pos rfl]
      have hb1 : ∀ x ∈ sigL (tx a0) i (tx a3), x.size ≤ 100 := fun x hx => by rw [sigL_big _ _ _ x hx]; decide
      have hb2 : ∀ x ∈ pathL (tx a0) i n, x.size ≤ 100 := fun x hx => by rw [pathL_big _ _ _ x hx]; decide
      have hi8 : i < 8 := Nat.lt_of_lt_of_le hi (Nat.le_trans (pow_le (show n ≤ 3 by omega)) (by decide))
      have hvi : verIn a4 (sigL (tx a0) i (tx a3)) (pathL (tx a0) i n) := verIn_small hs4 (fun x hx => Nat.le_trans (hb1 x hx) (by decide)) (fun x hx => Nat.le_trans (hb2 x hx) (by decide)) (by rw [sigL_len]; decide) (by rw [pathL_len]; omega)
      rw [PSBinds.planispherelaw02_SealBinds.j1, if_neg (show ¬ (((0 : Int) != 0) = true) by decide), ver_f _ _ _ _ _ hvi, Option.bind_some]
      by_cases hv : verR (ofT (Dig.tree (tx a0) n 0)) a4 i (sigL (tx a0) i (tx a3)) (pathL (tx a0) i n) = true
      · obtain ⟨m, em, v1, v2, v3, v4, v5, v6⟩ := ver_out hv
        obtain rfl : i = m := by omega
        have hpl := pathL_len (tx a0) i n
        rw [if_pos hv, if_pos rfl, made30 a0 n hs0 (by omega), Option.bind_some, chk_f a4 i _ _ hs4 (by omega) v1 hb1 hb2 (by omega), Option.bind_some]
        have g1 := made_len (tx a0) n 30 hn
        have g2 := checked_len (tx a4) i (sigL (tx a0) i (tx a3)) (pathL (tx a0) i n)
        rw [if_pos (by omega), shown_f _ (by rw [List.length_append]; omega) ?_, Option.bind_some]
        · cases hsb : shownB (madeL (tx a0) n 30 ++ checkedL (tx a4) i (sigL (tx a0) i (tx a3)) (pathL (tx a0) i n)) with
          | true => rfl
          | false => exact absurd (binds_one hi (one_of_shown hsb) (ofT_inj v6).symm) hne
        · intro x hx
          rcases List.mem_append.1 hx with hx | hx
          · exact made_small (tx a0) (by rw [tx_len]; exact hs0) n 30 (by omega) x hx
          · exact checked_small (tx a4) i _ _ v1 hb1 hb2 x hx
      · rw [if_neg hv]
  · rw [if_neg hsh, PSBinds.planispherelaw02_SealBinds.j0, if_pos rfl]
end Pure
end Go.Proofs.YteleheamnighkaaDoor
end
section
set_option linter.unusedVariables false
namespace Go.Proofs.YteleheamnighkaaDoor
open Go.ChangeShapes Go.WideShapes Go.ChangeAt Go.RowKit Go.Proofs.YteleheamnighkaaDoorW.PrintWords
open Go.ChangeMaps (open_string shut_string)
namespace RK
def laidL : List (String × DataW Unit) := [("math/bits.deBruijn32tab", Rows.laid_math_bits_deBruijn32tab), ("math/bits.deBruijn64tab", Rows.laid_math_bits_deBruijn64tab), ("internal/strconv.uint64pow10", Rows.laid_internal_strconv_uint64pow10), ("unicode/utf8.acceptRanges", Rows.laid_unicode_utf8_acceptRanges), ("unicode/utf8.first", Rows.laid_unicode_utf8_first)]
theorem pow_data : Rows.laid_internal_strconv_uint64pow10 (H := Unit) = Lib.tabData .u64 Lib.pow10Tab := by kernel_rfl
theorem tabIs_of_reads {P : Program} {W : World} {name : String} {k : IntKind} {zs : List Int} {g : Nat} {t e : TypeId} {n : Nat}
    (hg : P.globalNamed name = some g) (hty : (P.globals[g]?).map (·.type) = some t) (ht : P.underlying t = some (.array n e)) (he : P.underlying e = some (.int k)) (hce : P.cellsOf e = 1) (hct : P.cellsOf t = n)
    (h : Lib.VarReads P W name (Lib.tabData k zs)) : Lib.TabIs P W name k zs := by
  obtain ⟨g', t', cs, fuel, p, hg', ht', hvar, hd⟩ := h
  obtain rfl := Option.some.inj (hg.symm.trans hg')
  obtain rfl := Option.some.inj (hty.symm.trans ht')
  unfold Lib.TabIs
  rw [hvar, ← Lib.cells_of_tab ht he hce hct hd]
theorem glob {W : World} (h : laidMetH Tryd.prog laidL W) : Glob W := by
  rw [MakeChecks.laidMetH_plain _ _ _ (by kernel_rfl)] at h
  have hr := Lib.laidMet.reads h (n := "internal/strconv.uint64pow10") (d := Rows.laid_internal_strconv_uint64pow10) (by simp [laidL])
  rw [pow_data] at hr
  exact tabIs_of_reads (g := 0) (t := 118) (e := 54) (n := 20) (by kernel_rfl) (by kernel_rfl) Tryd.underlying118 Tryd.underlying54 (by kernel_rfl) (by kernel_rfl) hr
theorem own : ownKnob Tryd.prog.godebug = none := by kernel_rfl
theorem sized {H : Type} {ts : List TypeId} {ds : List (DataW H)} {s : ByteArray} (h : (DataW.weightsEach Tryd.prog ts ds).all (· ≤ reachBytes) = true) (j t : Nat) (ht : ts[j]? = some t) (hd : ds[j]? = some (.lit (.string s.data.toList))) : s.size ≤ 140737488351232 := by
  have z := sized_string h ht hd
  rw [Array.length_toList] at z
  exact z
variable {H : Type} {enc : TypeId × Value → H} {W : World} {base : Nat} {sp : Nat → Bool} {held : Bool}
end RK
end Go.Proofs.YteleheamnighkaaDoor
end
