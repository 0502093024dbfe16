-- Written by gprint.py (this session's own run of the printer, with given contracts).
import Derived.Test.YteleheamnighkaaDoorPDShortx0
namespace Go.Proofs.YteleheamnighkaaDoor.PDShort
open Go.RowKit Go.Proofs.YteleheamnighkaaDoorW.PrintWords Go.Proofs.YteleheamnighkaaDoorW.PrintLast Go.Proofs.YteleheamnighkaaDoorW.PrintMore
attribute [local go_sem] max2_int min2_int max_two min_two max_three min_three max_four min_four   -- for this text's walks alone
set_option linter.unusedVariables false
set_option linter.unusedSimpArgs false

/-! ### planispherelaw01_DigestShort: function 5 -/
def planispherelaw01_DigestShort.f (a0 : ByteArray) (a1 : ByteArray) : Option (Bool) := (planispherelaw01_head.f).bind fun t101 => (if 0 ≤ (mn (a0.size : Int) 7) then (if (mn (a0.size : Int) 7) ≤ (a0.size : Int) then (if 0 ≤ (mn (a1.size : Int) 7) then (if (mn (a1.size : Int) 7) ≤ (a1.size : Int) then (if t101 = true then ((digest_Sum.f (a0.extract 0 ((mn (a0.size : Int) 7) : Int).toNat)).bind fun t102 => ((digest_Sum.f (a1.extract 0 ((mn (a1.size : Int) 7) : Int).toNat)).bind fun t103 => (some ((t102.toList == t103.toList) == ((a0.extract 0 ((mn (a0.size : Int) 7) : Int).toNat).toList == (a1.extract 0 ((mn (a1.size : Int) 7) : Int).toNat).toList))))) else (some false)) else (none)) else (none)) else (none)) else (none))
set_option maxHeartbeats 8000000 in
set_option maxRecDepth 100000 in
theorem planispherelaw01_DigestShort.calls (a0 : ByteArray) (a1 : ByteArray) (r : Bool) (w : World) (h : planispherelaw01_DigestShort.f a0 a1 = some r) (hG : Glob w) :
    Calls Tryd.prog 5 #[.string a0, .string a1] w fun e w' => e = .returned (.bool r) ∧ Below w.heap.size w w' := by
  have HG_ := Aside0.mk hG
  clear hG
  have HB := Aside0.mk (Below.refl w.heap.size w)
  have H : ((planispherelaw01_head.f).bind fun t101 => (if 0 ≤ (mn (a0.size : Int) 7) then (if (mn (a0.size : Int) 7) ≤ (a0.size : Int) then (if 0 ≤ (mn (a1.size : Int) 7) then (if (mn (a1.size : Int) 7) ≤ (a1.size : Int) then (if t101 = true then ((digest_Sum.f (a0.extract 0 ((mn (a0.size : Int) 7) : Int).toNat)).bind fun t102 => ((digest_Sum.f (a1.extract 0 ((mn (a1.size : Int) 7) : Int).toNat)).bind fun t103 => (some ((t102.toList == t103.toList) == ((a0.extract 0 ((mn (a0.size : Int) 7) : Int).toNat).toList == (a1.extract 0 ((mn (a1.size : Int) 7) : Int).toNat).toList))))) else (some false)) else (none)) else (none)) else (none)) else (none))) = some r := h
  clear h
  replace H := Option.bind_eq_some_iff.mp H
  obtain ⟨t101, A30, H⟩ := H
  replace H : (if 0 ≤ (mn (a0.size : Int) 7) then (if (mn (a0.size : Int) 7) ≤ (a0.size : Int) then (if 0 ≤ (mn (a1.size : Int) 7) then (if (mn (a1.size : Int) 7) ≤ (a1.size : Int) then (if t101 = true then ((digest_Sum.f (a0.extract 0 ((mn (a0.size : Int) 7) : Int).toNat)).bind fun t102 => ((digest_Sum.f (a1.extract 0 ((mn (a1.size : Int) 7) : Int).toNat)).bind fun t103 => (some ((t102.toList == t103.toList) == ((a0.extract 0 ((mn (a0.size : Int) 7) : Int).toNat).toList == (a1.extract 0 ((mn (a1.size : Int) 7) : Int).toNat).toList))))) else (some false)) else (none)) else (none)) else (none)) else (none)) = some r := H
  have A3 := Aside0.mk A30
  clear A30
  obtain ⟨ji4, hji4⟩ : ∃ j_ : Int, (mn (a0.size : Int) 7) = j_ := ⟨_, rfl⟩
  replace H : (if 0 ≤ (ji4) then (if (ji4) ≤ (a0.size : Int) then (if 0 ≤ (mn (a1.size : Int) 7) then (if (mn (a1.size : Int) 7) ≤ (a1.size : Int) then (if t101 = true then ((digest_Sum.f (a0.extract 0 ((ji4) : Int).toNat)).bind fun t102 => ((digest_Sum.f (a1.extract 0 ((mn (a1.size : Int) 7) : Int).toNat)).bind fun t103 => (some ((t102.toList == t103.toList) == ((a0.extract 0 ((ji4) : Int).toNat).toList == (a1.extract 0 ((mn (a1.size : Int) 7) : Int).toNat).toList))))) else (some false)) else (none)) else (none)) else (none)) else (none)) = some r := by first | (rw [hji4] at H; exact H) | (simp only [hji4] at H ⊢; exact H)
  (try rw [hji4] at A3)
  (try (have hji4h : ji4 ≤ 7 := by (rw [← hji4]; unfold mn; (repeat' split) <;> omega)))
  (try (have hji4g : ji4 ≤ 64 := by omega))
  (try (have hji4l : 0 ≤ ji4 := by (rw [← hji4]; unfold mn; (repeat' split) <;> omega)))
  (try (have hji4m : 0 ≤ ji4 := by omega))
  have hji4_ : (if 7 < (a0.size : Int) then 7 else (a0.size : Int)) = ji4 := hji4
  by_cases c5 : 0 ≤ (ji4)
  · rw [if_pos c5] at H
    have c5b0 := eq_true c5
    have c5b1 : decide (0 ≤ (ji4)) = true := decide_eq_true c5
    clear c5
    by_cases c6 : (ji4) ≤ (a0.size : Int)
    · rw [if_pos c6] at H
      have c6b0 := eq_true c6
      have c6b1 : decide ((ji4) ≤ (a0.size : Int)) = true := decide_eq_true c6
      clear c6
      obtain ⟨ji7, hji7⟩ : ∃ j_ : Int, (mn (a1.size : Int) 7) = j_ := ⟨_, rfl⟩
      replace H : (if 0 ≤ (ji7) then (if (ji7) ≤ (a1.size : Int) then (if t101 = true then ((digest_Sum.f (a0.extract 0 ((ji4) : Int).toNat)).bind fun t102 => ((digest_Sum.f (a1.extract 0 ((ji7) : Int).toNat)).bind fun t103 => (some ((t102.toList == t103.toList) == ((a0.extract 0 ((ji4) : Int).toNat).toList == (a1.extract 0 ((ji7) : Int).toNat).toList))))) else (some false)) else (none)) else (none)) = some r := by first | (rw [hji7] at H; exact H) | (simp only [hji7] at H ⊢; exact H)
      (try rw [hji7] at A3)
      (try (have hji7h : ji7 ≤ 7 := by (rw [← hji7]; unfold mn; (repeat' split) <;> omega)))
      (try (have hji7g : ji7 ≤ 64 := by omega))
      (try (have hji7l : 0 ≤ ji7 := by (rw [← hji7]; unfold mn; (repeat' split) <;> omega)))
      (try (have hji7m : 0 ≤ ji7 := by omega))
      have hji7_ : (if 7 < (a1.size : Int) then 7 else (a1.size : Int)) = ji7 := hji7
      by_cases c8 : 0 ≤ (ji7)
      · rw [if_pos c8] at H
        have c8b0 := eq_true c8
        have c8b1 : decide (0 ≤ (ji7)) = true := decide_eq_true c8
        clear c8
        by_cases c9 : (ji7) ≤ (a1.size : Int)
        · rw [if_pos c9] at H
          have c9b0 := eq_true c9
          have c9b1 : decide ((ji7) ≤ (a1.size : Int)) = true := decide_eq_true c9
          clear c9
          by_cases c10 : t101 = true
          · subst c10
            have H1 : ((digest_Sum.f (a0.extract 0 ((ji4) : Int).toNat)).bind fun t102 => ((digest_Sum.f (a1.extract 0 ((ji7) : Int).toNat)).bind fun t103 => (some ((t102.toList == t103.toList) == ((a0.extract 0 ((ji4) : Int).toNat).toList == (a1.extract 0 ((ji7) : Int).toNat).toList))))) = some r := by rw [if_pos rfl] at H; exact H
            clear H
            have H := H1
            clear H1
            replace H := Option.bind_eq_some_iff.mp H
            obtain ⟨t102, A110, H⟩ := H
            replace H : ((digest_Sum.f (a1.extract 0 ((ji7) : Int).toNat)).bind fun t103 => (some ((t102.toList == t103.toList) == ((a0.extract 0 ((ji4) : Int).toNat).toList == (a1.extract 0 ((ji7) : Int).toNat).toList)))) = some r := H
            have A11 := Aside0.mk A110
            clear A110
            replace H := Option.bind_eq_some_iff.mp H
            obtain ⟨t103, A120, H⟩ := H
            replace H : (some ((t102.toList == t103.toList) == ((a0.extract 0 ((ji4) : Int).toNat).toList == (a1.extract 0 ((ji7) : Int).toNat).toList))) = some r := H
            have A12 := Aside0.mk A120
            clear A120
            obtain rfl := Option.some.inj H
            go_enter Tryd.func5, Tryd.ntmps5
            go_wp2_with (first | ((with_reducible refine gate_callee (f := 15) rfl ?_); refine goesL_ (some 6) rfl rfl Tryd.func15 (by kernel_rfl) rfl #[] rfl (by (try simp only [List.map_toArray, List.map_cons, List.map_nil]); first | done | rfl | (simp only [List.length_drop, List.length_take]; rfl)) ?_; (with_reducible refine (planispherelaw01_head.calls  true _ A3.out (hG := ?hGl)).mono ?_); clear A3; (case hGl => exact (Glob.below HG_.out (by repeat (first | (with_reducible first | exact HB.out | apply below_alloc | apply pw_below_drewN | apply below_drew1) | exact HB.out)))); rintro e w13 ⟨rfl, hb⟩; refine ⟨_, rfl, ?_⟩; have n0_ := Aside0.mk (below_step (by repeat (first | (with_reducible first | exact HB.out | apply below_alloc | apply pw_below_drewN | apply below_drew1) | exact HB.out)) hb); clear HB; have HB := n0_; clear n0_; (try clear hb); (try clear hb2); (try clear hk); (try clear hi)) | (go_at_call 17; (with_reducible refine (digest_Sum.calls (a0.extract 0 ((ji4) : Int).toNat) t102 _ A11.out).mono ?_); clear A11; rintro e w14 ⟨rfl, hb⟩; have n0_ := Aside0.mk (below_step (by repeat (first | (with_reducible first | exact HB.out | apply below_alloc | apply pw_below_drewN | apply below_drew1) | exact HB.out)) hb); clear HB; have HB := n0_; clear n0_; (try clear hb); (try clear hb2); (try clear hk); (try clear hi)) | (go_at_call 17; (with_reducible refine (digest_Sum.calls (a1.extract 0 ((ji7) : Int).toNat) t103 _ A12.out).mono ?_); clear A12; rintro e w15 ⟨rfl, hb⟩; have n0_ := Aside0.mk (below_step (by repeat (first | (with_reducible first | exact HB.out | apply below_alloc | apply pw_below_drewN | apply below_drew1) | exact HB.out)) hb); clear HB; have HB := n0_; clear n0_; (try clear hb); (try clear hb2); (try clear hk); (try clear hi)))
            go_ret
            exact ⟨by first | rfl | (simp [errW_none, errW_some] <;> rfl) | (simp only [← hji4, ← hji7]; first | rfl | (simp [errW_none, errW_some] <;> rfl)) | (simp [*, errW_none, errW_some] <;> rfl), by repeat (first | (with_reducible first | exact HB.out | apply below_alloc | apply pw_below_drewN | apply below_drew1) | exact HB.out)⟩
          · replace c10 := Bool.eq_false_iff.mpr c10
            subst c10
            have H1 : (some false) = some r := by rw [if_neg (show ¬ (false = true) by decide)] at H; exact H
            clear H
            have H := H1
            clear H1
            obtain rfl := Option.some.inj H
            go_enter Tryd.func5, Tryd.ntmps5
            go_wp2_with (first | ((with_reducible refine gate_callee (f := 15) rfl ?_); refine goesL_ (some 6) rfl rfl Tryd.func15 (by kernel_rfl) rfl #[] rfl (by (try simp only [List.map_toArray, List.map_cons, List.map_nil]); first | done | rfl | (simp only [List.length_drop, List.length_take]; rfl)) ?_; (with_reducible refine (planispherelaw01_head.calls  false _ A3.out (hG := ?hGl)).mono ?_); clear A3; (case hGl => exact (Glob.below HG_.out (by repeat (first | (with_reducible first | exact HB.out | apply below_alloc | apply pw_below_drewN | apply below_drew1) | exact HB.out)))); rintro e w16 ⟨rfl, hb⟩; refine ⟨_, rfl, ?_⟩; have n0_ := Aside0.mk (below_step (by repeat (first | (with_reducible first | exact HB.out | apply below_alloc | apply pw_below_drewN | apply below_drew1) | exact HB.out)) hb); clear HB; have HB := n0_; clear n0_; (try clear hb); (try clear hb2); (try clear hk); (try clear hi)))
            go_ret
            exact ⟨by first | rfl | (simp [errW_none, errW_some] <;> rfl) | (simp only [← hji4, ← hji7]; first | rfl | (simp [errW_none, errW_some] <;> rfl)) | (simp [*, errW_none, errW_some] <;> rfl), by repeat (first | (with_reducible first | exact HB.out | apply below_alloc | apply pw_below_drewN | apply below_drew1) | exact HB.out)⟩
        · rw [if_neg c9] at H
          exact absurd H (by simp)
      · rw [if_neg c8] at H
        exact absurd H (by simp)
    · rw [if_neg c6] at H
      exact absurd H (by simp)
  · rw [if_neg c5] at H
    exact absurd H (by simp)

end Go.Proofs.YteleheamnighkaaDoor.PDShort
