/-
What RowSBinds leans on, part 5: the texts of this seat, merged.
-/
import Derived.Test.YteleheamnighkaaDoorMSBindsd
import Derived.Test.YteleheamnighkaaDoorProg
import Derived.Below
import Derived.Deep.Draws
import Derived.Deep.AppendLies
import Derived.Maps.AppendAt
import Derived.OwnWalk
import Derived.Laws.BytesArg
import Derived.Laws.MakeOwn
import Derived.Laws.OwnMore
import Derived.Deep.OwnRows
import Derived.Tactics
import Derived.Lib.ConvBytes
import Derived.Laws.Slices
import Derived.WalkKit
import Derived.KernelRfl
import Derived.RowKit3
import Derived.Deep.LoopGhost
import Derived.Deep.QuietTactic
import Derived.BigQuiet
import Derived.WideLaws
import Derived.Deep.DeepCutAuto
import Derived.Deep.CutBlock
import Derived.Deep.RegionHeld3
import Derived.Laws.Rows
import Derived.Lib.AppendStr
import Derived.ArgAppend
import Derived.Laws.IdiomCopy
import Derived.OrdersHeld
import Derived.Laws.BitsLemmas
import Derived.RowKit
section
namespace Go.Proofs.YteleheamnighkaaDoor.PCd
open Go.RowKit Go.Proofs.YteleheamnighkaaDoorW.PrintWords Go.Proofs.YteleheamnighkaaDoorW.PrintLast Go.Proofs.YteleheamnighkaaDoorW.PrintMore
attribute [local go_sem] max2_int min2_int max_two min_two max_three min_three max_four min_four   -- for this text's walks alone
set_option linter.unusedVariables false
set_option linter.unusedSimpArgs false
mutual
def planisphereref02_Shown.l0 : Nat → List ByteArray → List ByteArray → Int → Option (Bool)
  | 0, _, _, _ => none
  | k + 1, x0, x3, x4 => if x4 < (x0.length : Int) then (if 0 ≤ x4 then ((planisphereref01_Sum.f (rdOf ByteArray.empty x0 x4)).bind fun t102 => (if x3.length < 8796093022208 then (planisphereref02_Shown.l0 k x0 (x3 ++ [t102]) (wrap64 (x4 + 1))) else (none))) else (none)) else (planisphereref02_Shown.l1 k x0 x3 0)
def planisphereref02_Shown.l1 : Nat → List ByteArray → List ByteArray → Int → Option (Bool)
  | 0, _, _, _ => none
  | k + 1, x0, x3, x5 => if x5 < (x0.length : Int) then (planisphereref02_Shown.l2 k x0 x3 x5 0) else (some false)
def planisphereref02_Shown.l2 : Nat → List ByteArray → List ByteArray → Int → Int → Option (Bool)
  | 0, _, _, _, _ => none
  | k + 1, x0, x3, x5, x6 => if x6 < x5 then (if 0 ≤ x5 then (if x5 < (x3.length : Int) then (if 0 ≤ x6 then (if x6 < (x3.length : Int) then (if (rdOf ByteArray.empty x3 x5).toList = (rdOf ByteArray.empty x3 x6).toList then (if x5 < (x0.length : Int) then (if x6 < (x0.length : Int) then (if (rdOf ByteArray.empty x0 x5).toList = (rdOf ByteArray.empty x0 x6).toList then (planisphereref02_Shown.l2 k x0 x3 x5 (wrap64 (x6 + 1))) else (some true)) else (none)) else (none)) else (planisphereref02_Shown.l2 k x0 x3 x5 (wrap64 (x6 + 1)))) else (none)) else (none)) else (none)) else (none)) else (planisphereref02_Shown.l1 k x0 x3 (wrap64 (x5 + 1)))
end
def planisphereref02_Shown.f (k : Nat) (l0 : List ByteArray) : Option (Bool) := planisphereref02_Shown.l0 k l0 ([] : List ByteArray) 0
set_option maxHeartbeats 8000000 in
set_option maxRecDepth 100000 in
theorem planisphereref02_Shown.calls (k : Nat) (A0 : Option Addr) (c0 : Nat) (l0 : List ByteArray) (r : Bool) (w : World) (hr0 : Kd.C Kd.string w A0 l0.length l0) (hc0 : l0.length ≤ c0) (h : planisphereref02_Shown.f k l0 = some r) :
    Calls Tryd.prog 35 #[.slice A0 l0.length c0] w fun e w' => e = .returned (.bool r) ∧ Below w.heap.size w w' := by
  have HR0 := Aside0.mk hr0
  have HC0 := Aside0.mk hc0
  clear hr0 hc0
  have HB := Aside0.mk (Below.refl w.heap.size w)
  have H : (planisphereref02_Shown.l0 k l0 ([] : List ByteArray) 0) = some r := h
  clear h
  have H' := Aside0.mk H
  clear H
  go_enter Tryd.func35, Tryd.ntmps35
  go_wp2
  repeat (go_quiet (fail); try go_wp2)
  go_loopg [3, 4] k (fun kq v3 v4 w' => ∃ (x3_1 : List ByteArray) (x4_1 : Int), v4 = .int .i64 x4_1 ∧ Aside0 (planisphereref02_Shown.l0 kq l0 x3_1 x4_1 = some r) ∧ Aside0 (kq ≤ k) ∧ Aside0 (Kd.R Kd.string 9 w' w.heap.size (fun _ => True) v3 x3_1) ∧ Aside0 (Below w.heap.size w w'))
  case atStart => exact ⟨(([] : List ByteArray)), (0), (by first | rfl | (simp; done) | (simp [*]; done)), H', ⟨Nat.le_refl _⟩, ⟨by first | exact Kd.R_nil _ _ _ _ _ | exact Kd.N_nil _ _ _ _ _ | exact Kd.V_nil _ _ _ _ _ | exact Kd.Q_nil _ _ _ _ _ | exact Kd.S_nil _ _ _ _ _⟩, ⟨by repeat (first | (with_reducible first | exact HB.out | apply below_alloc | apply pw_below_drewN | apply below_drew1) | exact HB.out)⟩⟩
  case round =>
    clear H'
    obtain ⟨x3_1, x4_1, rfl, HA, HK1, HO_3, HB⟩ := hrel
    cases gk with
    | zero => exact absurd HA.out (by simp [planisphereref02_Shown.l0])
    | succ k1 =>
      have H := HA.out
      clear HA
      simp only [planisphereref02_Shown.l0] at H
      by_cases c2 : x4_1 < (l0.length : Int)
      · rw [if_pos c2] at H
        have c2b0 : decide (x4_1 < (l0.length : Int)) = true := decide_eq_true c2
        clear c2
        by_cases c3 : 0 ≤ x4_1
        · rw [if_pos c3] at H
          have c3b0 : decide (0 ≤ x4_1) = true := decide_eq_true c3
          clear c3
          replace H := Option.bind_eq_some_iff.mp H
          obtain ⟨t102, A40, H⟩ := H
          replace H : (if x3_1.length < 8796093022208 then (planisphereref02_Shown.l0 k1 l0 (x3_1 ++ [t102]) (wrap64 (x4_1 + 1))) else (none)) = some r := H
          have A4 := Aside0.mk A40
          clear A40
          by_cases c5 : x3_1.length < 8796093022208
          · rw [if_pos c5] at H
            have LMc5 := Aside0.mk c5
            clear c5
            obtain ⟨y103, hy103⟩ : ∃ y_ : List ByteArray, y_ = (x3_1 ++ [t102]) := ⟨_, rfl⟩
            replace H : (planisphereref02_Shown.l0 k1 l0 y103 (wrap64 (x4_1 + 1))) = some r := by first | (rw [hy103]; with_reducible exact H) | (have H2_ := (Option.bind_some _ _).symm.trans H; rw [hy103]; with_reducible exact H2_) | (have H2_ := (Option.bind_some _ _).symm.trans H; with_reducible exact H2_) | with_reducible exact H | (rw [hy103]; exact H) | exact H
            have Ny103 := Aside0.mk hy103
            clear hy103
            have H' := Aside0.mk H
            clear H
            have p101 : 0 ≤ (x4_1 : Int) := of_decide_eq_true (by first | (with_reducible assumption) | assumption)
            have q101 : x4_1 < (l0.length : Int) := of_decide_eq_true (by first | (with_reducible assumption) | assumption)
            obtain ⟨ad101, e101, hx101_0⟩ := Kd.at_string HR0.out x4_1 p101 q101
            cases e101
            replace hx101_0 := (HB.out.cell (World.block_lt_of_cell? w _ hx101_0)).trans hx101_0
            replace p101 := eq_true p101
            replace q101 := eq_true q101
            go_wp2_with (first | (go_at_call 18; (with_reducible refine (planisphereref01_Sum.callsB (rdOf ByteArray.empty l0 x4_1) t102 _ A4.out).mono ?_); clear A4; rintro e w6 ⟨rfl, hb⟩; have n0_ := Aside0.mk (Kd.R_below (by (with_reducible repeat (first | apply Kd.R_alloc | apply Kd.R_drewN | apply Kd.R_drew)); exact HO_3.out) hb); have n1_ := Aside0.mk (below_step (by repeat (first | (with_reducible first | exact HB.out | apply below_alloc | apply pw_below_drewN | apply below_drew1) | exact HB.out)) hb); clear HO_3; clear HB; have HO_3 := n0_; have HB := n1_; clear n0_ n1_; (try clear hb); (try clear hb2); (try clear hk); (try clear hi)) | ((with_reducible refine gate_builtin (b := .append) (xs := #[.tmp 13, .tmp 19]) rfl ?_); at_builtin; refine Kd.R_append Kd.string (w0 := w) w.heap.size rfl (.tmp 13) (.tmp 19) 22 9 (.string ⟨#[]⟩) 16 rfl Tryd.underlying22 info9 rfl (by decide) (by omega) u3 x3_1 t102 [.string t102] (fun _ => True) (fun _ => False) rfl rfl ?aP (fun _ hk => hk.elim) ?aF ?aO ?aB ?aS ?aL ?_; (case aP => exact rfl); (case aB => exact (by repeat (first | (with_reducible first | exact HB.out | apply below_alloc | apply pw_below_drewN | apply below_drew1) | exact HB.out))); (case aF => exact (fun _ _ => trivial)); (case aO => exact (by (with_reducible repeat (first | apply Kd.R_alloc | apply Kd.R_drewN | apply Kd.R_drew)); exact HO_3.out)); (case aS => exact (below_size (by repeat (first | (with_reducible first | exact HB.out | apply below_alloc | apply pw_below_drewN | apply below_drew1) | exact HB.out)))); (case aL => have := LMc5.out; omega); intro v104 w7 ho hb hg hat; rw [← Ny103.out] at ho; have n0_ := Aside0.mk (hb); have n1_ := Aside0.mk (ho); clear HB; clear HO_3; have HB := n0_; have HO105 := n1_; clear n0_ n1_; clear ho hb hg hat))
            repeat (go_quiet (first | (go_at_call 18; (with_reducible refine (planisphereref01_Sum.callsB (rdOf ByteArray.empty l0 x4_1) t102 _ A4.out).mono ?_); clear A4; rintro e w6 ⟨rfl, hb⟩; have n0_ := Aside0.mk (Kd.R_below (by (with_reducible repeat (first | apply Kd.R_alloc | apply Kd.R_drewN | apply Kd.R_drew)); exact HO_3.out) hb); have n1_ := Aside0.mk (below_step (by repeat (first | (with_reducible first | exact HB.out | apply below_alloc | apply pw_below_drewN | apply below_drew1) | exact HB.out)) hb); clear HO_3; clear HB; have HO_3 := n0_; have HB := n1_; clear n0_ n1_; (try clear hb); (try clear hb2); (try clear hk); (try clear hi)) | ((with_reducible refine gate_builtin (b := .append) (xs := #[.tmp 13, .tmp 19]) rfl ?_); at_builtin; refine Kd.R_append Kd.string (w0 := w) w.heap.size rfl (.tmp 13) (.tmp 19) 22 9 (.string ⟨#[]⟩) 16 rfl Tryd.underlying22 info9 rfl (by decide) (by omega) u3 x3_1 t102 [.string t102] (fun _ => True) (fun _ => False) rfl rfl ?aP (fun _ hk => hk.elim) ?aF ?aO ?aB ?aS ?aL ?_; (case aP => exact rfl); (case aB => exact (by repeat (first | (with_reducible first | exact HB.out | apply below_alloc | apply pw_below_drewN | apply below_drew1) | exact HB.out))); (case aF => exact (fun _ _ => trivial)); (case aO => exact (by (with_reducible repeat (first | apply Kd.R_alloc | apply Kd.R_drewN | apply Kd.R_drew)); exact HO_3.out)); (case aS => exact (below_size (by repeat (first | (with_reducible first | exact HB.out | apply below_alloc | apply pw_below_drewN | apply below_drew1) | exact HB.out)))); (case aL => have := LMc5.out; omega); intro v104 w7 ho hb hg hat; rw [← Ny103.out] at ho; have n0_ := Aside0.mk (hb); have n1_ := Aside0.mk (ho); clear HB; clear HO_3; have HB := n0_; have HO105 := n1_; clear n0_ n1_; clear ho hb hg hat)); try go_wp2_with (first | (go_at_call 18; (with_reducible refine (planisphereref01_Sum.callsB (rdOf ByteArray.empty l0 x4_1) t102 _ A4.out).mono ?_); clear A4; rintro e w6 ⟨rfl, hb⟩; have n0_ := Aside0.mk (Kd.R_below (by (with_reducible repeat (first | apply Kd.R_alloc | apply Kd.R_drewN | apply Kd.R_drew)); exact HO_3.out) hb); have n1_ := Aside0.mk (below_step (by repeat (first | (with_reducible first | exact HB.out | apply below_alloc | apply pw_below_drewN | apply below_drew1) | exact HB.out)) hb); clear HO_3; clear HB; have HO_3 := n0_; have HB := n1_; clear n0_ n1_; (try clear hb); (try clear hb2); (try clear hk); (try clear hi)) | ((with_reducible refine gate_builtin (b := .append) (xs := #[.tmp 13, .tmp 19]) rfl ?_); at_builtin; refine Kd.R_append Kd.string (w0 := w) w.heap.size rfl (.tmp 13) (.tmp 19) 22 9 (.string ⟨#[]⟩) 16 rfl Tryd.underlying22 info9 rfl (by decide) (by omega) u3 x3_1 t102 [.string t102] (fun _ => True) (fun _ => False) rfl rfl ?aP (fun _ hk => hk.elim) ?aF ?aO ?aB ?aS ?aL ?_; (case aP => exact rfl); (case aB => exact (by repeat (first | (with_reducible first | exact HB.out | apply below_alloc | apply pw_below_drewN | apply below_drew1) | exact HB.out))); (case aF => exact (fun _ _ => trivial)); (case aO => exact (by (with_reducible repeat (first | apply Kd.R_alloc | apply Kd.R_drewN | apply Kd.R_drew)); exact HO_3.out)); (case aS => exact (below_size (by repeat (first | (with_reducible first | exact HB.out | apply below_alloc | apply pw_below_drewN | apply below_drew1) | exact HB.out)))); (case aL => have := LMc5.out; omega); intro v104 w7 ho hb hg hat; rw [← Ny103.out] at ho; have n0_ := Aside0.mk (hb); have n1_ := Aside0.mk (ho); clear HB; clear HO_3; have HB := n0_; have HO105 := n1_; clear n0_ n1_; clear ho hb hg hat)))
            go_roundg k1
            case measure => have := HK1.out; omega
            case rel => exact ⟨(y103), (wrap64 (x4_1 + 1)), (by first | rfl | (simp; done) | (simp [*]; done)), H', ⟨by have := HK1.out; omega⟩, ⟨by (with_reducible repeat (first | apply Kd.R_alloc | apply Kd.R_drewN | apply Kd.R_drew)); exact HO105.out⟩, ⟨by repeat (first | (with_reducible first | exact HB.out | apply below_alloc | apply pw_below_drewN | apply below_drew1) | exact HB.out)⟩⟩
          · rw [if_neg c5] at H
            exact absurd H (by simp)
        · rw [if_neg c3] at H
          exact absurd H (by simp)
      · rw [if_neg c2] at H
        have c2b0 : decide (x4_1 < (l0.length : Int)) = false := decide_eq_false c2
        clear c2
        have H' := Aside0.mk H
        clear H
        go_wp2
        repeat (go_quiet (fail); try go_wp2)
        go_loopg [5] k1 (fun kq v5 w' => ∃ (x5_2 : Int), v5 = .int .i64 x5_2 ∧ Aside0 (planisphereref02_Shown.l1 kq l0 x3_1 x5_2 = some r) ∧ Aside0 (kq ≤ k1) ∧ Aside0 (Kd.R Kd.string 9 w' w.heap.size (fun _ => True) u3 x3_1) ∧ Aside0 (Below w.heap.size w w'))
        case atStart => exact ⟨(0), (by first | rfl | (simp; done) | (simp [*]; done)), H', ⟨Nat.le_refl _⟩, ⟨by (with_reducible repeat (first | apply Kd.R_alloc | apply Kd.R_drewN | apply Kd.R_drew)); exact HO_3.out⟩, ⟨by repeat (first | (with_reducible first | exact HB.out | apply below_alloc | apply pw_below_drewN | apply below_drew1) | exact HB.out)⟩⟩
        case round =>
          clear H'
          try clear p1
          try clear q1
          try clear hx1
          try clear c2
          try clear c2b0
          try clear p2
          try clear c3
          try clear c3b0
          try clear c5
          try clear p6
          try clear hx101_0
          try clear p101
          try clear q101
          obtain ⟨x5_2, rfl, HA, HK2, HO_3, HB⟩ := hrel
          cases gk with
          | zero => exact absurd HA.out (by simp [planisphereref02_Shown.l1])
          | succ k2 =>
            have H := HA.out
            clear HA
            simp only [planisphereref02_Shown.l1] at H
            by_cases c8 : x5_2 < (l0.length : Int)
            · rw [if_pos c8] at H
              have c8b0 : decide (x5_2 < (l0.length : Int)) = true := decide_eq_true c8
              clear c8
              have H' := Aside0.mk H
              clear H
              go_wp2
              repeat (go_quiet (fail); try go_wp2)
              go_loopg [6] k2 (fun kq v6 w' => ∃ (x6_3 : Int), v6 = .int .i64 x6_3 ∧ Aside0 (planisphereref02_Shown.l2 kq l0 x3_1 x5_2 x6_3 = some r) ∧ Aside0 (kq ≤ k2) ∧ Aside0 (Kd.R Kd.string 9 w' w.heap.size (fun _ => True) u3 x3_1) ∧ Aside0 (Below w.heap.size w w'))
              case atStart => exact ⟨(0), (by first | rfl | (simp; done) | (simp [*]; done)), H', ⟨Nat.le_refl _⟩, ⟨by (with_reducible repeat (first | apply Kd.R_alloc | apply Kd.R_drewN | apply Kd.R_drew)); exact HO_3.out⟩, ⟨by repeat (first | (with_reducible first | exact HB.out | apply below_alloc | apply pw_below_drewN | apply below_drew1) | exact HB.out)⟩⟩
              case round =>
                clear H'
                try clear p1
                try clear q1
                try clear hx1
                try clear c2
                try clear c2b0
                try clear p2
                try clear c3
                try clear c3b0
                try clear c5
                try clear p6
                try clear c8
                try clear c8b0
                try clear hx101_0
                try clear p1
                try clear p101
                try clear p2
                try clear p6
                try clear q1
                try clear q101
                obtain ⟨x6_3, rfl, HA, HK3, HO_3, HB⟩ := hrel
                cases gk with
                | zero => exact absurd HA.out (by simp [planisphereref02_Shown.l2])
                | succ k3 =>
                  have H := HA.out
                  clear HA
                  simp only [planisphereref02_Shown.l2] at H
                  by_cases c9 : x6_3 < x5_2
                  · rw [if_pos c9] at H
                    have c9b0 : decide (x6_3 < x5_2) = true := decide_eq_true c9
                    clear c9
                    by_cases c10 : 0 ≤ x5_2
                    · rw [if_pos c10] at H
                      have c10b0 : decide (0 ≤ x5_2) = true := decide_eq_true c10
                      clear c10
                      by_cases c11 : x5_2 < (x3_1.length : Int)
                      · rw [if_pos c11] at H
                        have c11b0 : decide (x5_2 < (x3_1.length : Int)) = true := decide_eq_true c11
                        clear c11
                        by_cases c12 : 0 ≤ x6_3
                        · rw [if_pos c12] at H
                          have c12b0 : decide (0 ≤ x6_3) = true := decide_eq_true c12
                          clear c12
                          by_cases c13 : x6_3 < (x3_1.length : Int)
                          · rw [if_pos c13] at H
                            have c13b0 : decide (x6_3 < (x3_1.length : Int)) = true := decide_eq_true c13
                            clear c13
                            by_cases c14 : (rdOf ByteArray.empty x3_1 x5_2).toList = (rdOf ByteArray.empty x3_1 x6_3).toList
                            · rw [if_pos c14] at H
                              have c14b0 : ((rdOf ByteArray.empty x3_1 x5_2).toList == (rdOf ByteArray.empty x3_1 x6_3).toList) = true := beq_iff_eq.mpr c14
                              have c14b1 : ((rdOf ByteArray.empty x3_1 x5_2).toList != (rdOf ByteArray.empty x3_1 x6_3).toList) = false := bne_eq_false_iff_eq.mpr c14
                              clear c14
                              by_cases c15 : x5_2 < (l0.length : Int)
                              · rw [if_pos c15] at H
                                have c15b0 : decide (x5_2 < (l0.length : Int)) = true := decide_eq_true c15
                                clear c15
                                by_cases c16 : x6_3 < (l0.length : Int)
                                · rw [if_pos c16] at H
                                  have c16b0 : decide (x6_3 < (l0.length : Int)) = true := decide_eq_true c16
                                  clear c16
                                  by_cases c17 : (rdOf ByteArray.empty l0 x5_2).toList = (rdOf ByteArray.empty l0 x6_3).toList
                                  · rw [if_pos c17] at H
                                    have c17b0 : ((rdOf ByteArray.empty l0 x5_2).toList == (rdOf ByteArray.empty l0 x6_3).toList) = true := beq_iff_eq.mpr c17
                                    have c17b1 : ((rdOf ByteArray.empty l0 x5_2).toList != (rdOf ByteArray.empty l0 x6_3).toList) = false := bne_eq_false_iff_eq.mpr c17
                                    clear c17
                                    have H' := Aside0.mk H
                                    clear H
                                    obtain ⟨Ao18, co18, eo18⟩ := Kd.R_slice HO_3.out
                                    subst eo18
                                    have p106 : 0 ≤ (x5_2 : Int) := of_decide_eq_true (by first | (with_reducible assumption) | assumption)
                                    have q106 : x5_2 < (x3_1.length : Int) := of_decide_eq_true (by first | (with_reducible assumption) | assumption)
                                    obtain ⟨ad106, e106, hx106_0⟩ := Kd.at_string (Kd.R_reads' HO_3.out).2.2 x5_2 p106 q106
                                    cases e106
                                    replace p106 := eq_true p106
                                    replace q106 := eq_true q106
                                    have p107 : 0 ≤ (x6_3 : Int) := of_decide_eq_true (by first | (with_reducible assumption) | assumption)
                                    have q107 : x6_3 < (x3_1.length : Int) := of_decide_eq_true (by first | (with_reducible assumption) | assumption)
                                    obtain ⟨ad107, e107, hx107_0⟩ := Kd.at_string (Kd.R_reads' HO_3.out).2.2 x6_3 p107 q107
                                    obtain rfl : ad106 = ad107 := (by injection e107)
                                    replace p107 := eq_true p107
                                    replace q107 := eq_true q107
                                    have p108 : 0 ≤ (x5_2 : Int) := of_decide_eq_true (by first | (with_reducible assumption) | assumption)
                                    have q108 : x5_2 < (l0.length : Int) := of_decide_eq_true (by first | (with_reducible assumption) | assumption)
                                    obtain ⟨ad108, e108, hx108_0⟩ := Kd.at_string HR0.out x5_2 p108 q108
                                    cases e108
                                    replace hx108_0 := (HB.out.cell (World.block_lt_of_cell? w _ hx108_0)).trans hx108_0
                                    replace p108 := eq_true p108
                                    replace q108 := eq_true q108
                                    have p109 : 0 ≤ (x6_3 : Int) := of_decide_eq_true (by first | (with_reducible assumption) | assumption)
                                    have q109 : x6_3 < (l0.length : Int) := of_decide_eq_true (by first | (with_reducible assumption) | assumption)
                                    obtain ⟨ad109, e109, hx109_0⟩ := Kd.at_string HR0.out x6_3 p109 q109
                                    obtain rfl : ad108 = ad109 := (by injection e109)
                                    replace hx109_0 := (HB.out.cell (World.block_lt_of_cell? w _ hx109_0)).trans hx109_0
                                    replace p109 := eq_true p109
                                    replace q109 := eq_true q109
                                    go_wp2
                                    repeat (go_quiet (fail); try go_wp2)
                                    go_roundg k3
                                    case measure => have := HK1.out; have := HK2.out; have := HK3.out; omega
                                    case rel => exact ⟨(wrap64 (x6_3 + 1)), (by first | rfl | (simp; done) | (simp [*]; done)), H', ⟨by have := HK1.out; have := HK2.out; have := HK3.out; omega⟩, ⟨by (with_reducible repeat (first | apply Kd.R_alloc | apply Kd.R_drewN | apply Kd.R_drew)); exact HO_3.out⟩, ⟨by repeat (first | (with_reducible first | exact HB.out | apply below_alloc | apply pw_below_drewN | apply below_drew1) | exact HB.out)⟩⟩
                                  · rw [if_neg c17] at H
                                    have c17b0 : ((rdOf ByteArray.empty l0 x5_2).toList == (rdOf ByteArray.empty l0 x6_3).toList) = false := beq_eq_false_iff_ne.mpr c17
                                    have c17b1 : ((rdOf ByteArray.empty l0 x5_2).toList != (rdOf ByteArray.empty l0 x6_3).toList) = true := bne_iff_ne.mpr c17
                                    obtain rfl := Option.some.inj H
                                    obtain ⟨Ao19, co19, eo19⟩ := Kd.R_slice HO_3.out
                                    subst eo19
                                    have p106 : 0 ≤ (x5_2 : Int) := of_decide_eq_true (by first | (with_reducible assumption) | assumption)
                                    have q106 : x5_2 < (x3_1.length : Int) := of_decide_eq_true (by first | (with_reducible assumption) | assumption)
                                    obtain ⟨ad106, e106, hx106_0⟩ := Kd.at_string (Kd.R_reads' HO_3.out).2.2 x5_2 p106 q106
                                    cases e106
                                    replace p106 := eq_true p106
                                    replace q106 := eq_true q106
                                    have p107 : 0 ≤ (x6_3 : Int) := of_decide_eq_true (by first | (with_reducible assumption) | assumption)
                                    have q107 : x6_3 < (x3_1.length : Int) := of_decide_eq_true (by first | (with_reducible assumption) | assumption)
                                    obtain ⟨ad107, e107, hx107_0⟩ := Kd.at_string (Kd.R_reads' HO_3.out).2.2 x6_3 p107 q107
                                    obtain rfl : ad106 = ad107 := (by injection e107)
                                    replace p107 := eq_true p107
                                    replace q107 := eq_true q107
                                    have p108 : 0 ≤ (x5_2 : Int) := of_decide_eq_true (by first | (with_reducible assumption) | assumption)
                                    have q108 : x5_2 < (l0.length : Int) := of_decide_eq_true (by first | (with_reducible assumption) | assumption)
                                    obtain ⟨ad108, e108, hx108_0⟩ := Kd.at_string HR0.out x5_2 p108 q108
                                    cases e108
                                    replace hx108_0 := (HB.out.cell (World.block_lt_of_cell? w _ hx108_0)).trans hx108_0
                                    replace p108 := eq_true p108
                                    replace q108 := eq_true q108
                                    have p109 : 0 ≤ (x6_3 : Int) := of_decide_eq_true (by first | (with_reducible assumption) | assumption)
                                    have q109 : x6_3 < (l0.length : Int) := of_decide_eq_true (by first | (with_reducible assumption) | assumption)
                                    obtain ⟨ad109, e109, hx109_0⟩ := Kd.at_string HR0.out x6_3 p109 q109
                                    obtain rfl : ad108 = ad109 := (by injection e109)
                                    replace hx109_0 := (HB.out.cell (World.block_lt_of_cell? w _ hx109_0)).trans hx109_0
                                    replace p109 := eq_true p109
                                    replace q109 := eq_true q109
                                    go_wp2
                                    repeat (go_quiet (fail); try go_wp2)
                                    go_ret
                                    exact ⟨by first | rfl | (simp [errW_none, errW_some] <;> rfl) | (simp [*, errW_none, errW_some] <;> rfl), by repeat (first | (with_reducible first | exact HB.out | apply below_alloc | apply pw_below_drewN | apply below_drew1) | exact HB.out)⟩
                                · rw [if_neg c16] at H
                                  exact absurd H (by simp)
                              · rw [if_neg c15] at H
                                exact absurd H (by simp)
                            · rw [if_neg c14] at H
                              have c14b0 : ((rdOf ByteArray.empty x3_1 x5_2).toList == (rdOf ByteArray.empty x3_1 x6_3).toList) = false := beq_eq_false_iff_ne.mpr c14
                              have c14b1 : ((rdOf ByteArray.empty x3_1 x5_2).toList != (rdOf ByteArray.empty x3_1 x6_3).toList) = true := bne_iff_ne.mpr c14
                              have H' := Aside0.mk H
                              clear H
                              obtain ⟨Ao20, co20, eo20⟩ := Kd.R_slice HO_3.out
                              subst eo20
                              have p106 : 0 ≤ (x5_2 : Int) := of_decide_eq_true (by first | (with_reducible assumption) | assumption)
                              have q106 : x5_2 < (x3_1.length : Int) := of_decide_eq_true (by first | (with_reducible assumption) | assumption)
                              obtain ⟨ad106, e106, hx106_0⟩ := Kd.at_string (Kd.R_reads' HO_3.out).2.2 x5_2 p106 q106
                              cases e106
                              replace p106 := eq_true p106
                              replace q106 := eq_true q106
                              have p107 : 0 ≤ (x6_3 : Int) := of_decide_eq_true (by first | (with_reducible assumption) | assumption)
                              have q107 : x6_3 < (x3_1.length : Int) := of_decide_eq_true (by first | (with_reducible assumption) | assumption)
                              obtain ⟨ad107, e107, hx107_0⟩ := Kd.at_string (Kd.R_reads' HO_3.out).2.2 x6_3 p107 q107
                              obtain rfl : ad106 = ad107 := (by injection e107)
                              replace p107 := eq_true p107
                              replace q107 := eq_true q107
                              go_wp2
                              repeat (go_quiet (fail); try go_wp2)
                              go_roundg k3
                              case measure => have := HK1.out; have := HK2.out; have := HK3.out; omega
                              case rel => exact ⟨(wrap64 (x6_3 + 1)), (by first | rfl | (simp; done) | (simp [*]; done)), H', ⟨by have := HK1.out; have := HK2.out; have := HK3.out; omega⟩, ⟨by (with_reducible repeat (first | apply Kd.R_alloc | apply Kd.R_drewN | apply Kd.R_drew)); exact HO_3.out⟩, ⟨by repeat (first | (with_reducible first | exact HB.out | apply below_alloc | apply pw_below_drewN | apply below_drew1) | exact HB.out)⟩⟩
                          · rw [if_neg c13] at H
                            exact absurd H (by simp)
                        · rw [if_neg c12] at H
                          exact absurd H (by simp)
                      · rw [if_neg c11] at H
                        exact absurd H (by simp)
                    · rw [if_neg c10] at H
                      exact absurd H (by simp)
                  · rw [if_neg c9] at H
                    have c9b0 : decide (x6_3 < x5_2) = false := decide_eq_false c9
                    clear c9
                    have H' := Aside0.mk H
                    clear H
                    go_wp2
                    repeat (go_quiet (fail); try go_wp2)
                    go_roundg k3
                    case measure => have := HK1.out; have := HK2.out; have := HK3.out; omega
                    case rel => exact ⟨(wrap64 (x5_2 + 1)), (by first | rfl | (simp; done) | (simp [*]; done)), H', ⟨by have := HK1.out; have := HK2.out; have := HK3.out; omega⟩, ⟨by (with_reducible repeat (first | apply Kd.R_alloc | apply Kd.R_drewN | apply Kd.R_drew)); exact HO_3.out⟩, ⟨by repeat (first | (with_reducible first | exact HB.out | apply below_alloc | apply pw_below_drewN | apply below_drew1) | exact HB.out)⟩⟩
            · rw [if_neg c8] at H
              have c8b0 : decide (x5_2 < (l0.length : Int)) = false := decide_eq_false c8
              clear c8
              obtain rfl := Option.some.inj H
              go_wp2
              repeat (go_quiet (fail); try go_wp2)
              go_ret
              exact ⟨by first | rfl | (simp [errW_none, errW_some] <;> rfl) | (simp [*, errW_none, errW_some] <;> rfl), by repeat (first | (with_reducible first | exact HB.out | apply below_alloc | apply pw_below_drewN | apply below_drew1) | exact HB.out)⟩
end Go.Proofs.YteleheamnighkaaDoor.PCd
end
section
set_option linter.unusedVariables false
set_option linter.unusedSimpArgs false
namespace Go.Proofs.YteleheamnighkaaDoor
open Go.RowKit Go.DoorKit Go.Proofs.YteleheamnighkaaDoorW.PrintWords
abbrev at0 (l : List ByteArray) (i : Nat) : ByteArray := l.getD i ByteArray.empty
def sumB (s : ByteArray) : ByteArray := ofT (Dig.sum (tx s))
def hit (l : List ByteArray) (i k : Nat) : Prop := sumB (at0 l i) = sumB (at0 l k) ∧ at0 l i ≠ at0 l k
instance (l : List ByteArray) (i k : Nat) : Decidable (hit l i k) := inferInstanceAs (Decidable (sumB (at0 l i) = sumB (at0 l k) ∧ at0 l i ≠ at0 l k))
def shownB (l : List ByteArray) : Bool := (List.range l.length).any fun i => (List.range i).any fun k => decide (hit l i k)
theorem shown_true {l : List ByteArray} {i k : Nat} (hi : i < l.length) (hk : k < i) (h : hit l i k) : shownB l = true := by
  unfold shownB
  rw [List.any_eq_true]
  refine ⟨i, List.mem_range.2 hi, ?_⟩
  rw [List.any_eq_true]
  exact ⟨k, List.mem_range.2 hk, decide_eq_true h⟩
theorem shown_false {l : List ByteArray} (h : ∀ i k, i < l.length → k < i → ¬ hit l i k) : shownB l = false := by
  unfold shownB
  rw [List.any_eq_false]
  intro i hi
  rw [Bool.not_eq_true, List.any_eq_false]
  intro k hk
  rw [decide_eq_true_eq]
  exact h i k (List.mem_range.1 hi) (List.mem_range.1 hk)
def sumsTo (l : List ByteArray) (j : Nat) : List ByteArray := (l.take j).map sumB
theorem sumsTo_len {l : List ByteArray} {j : Nat} (h : j ≤ l.length) : (sumsTo l j).length = j := by simp [sumsTo, h]
theorem sumsTo_succ {l : List ByteArray} {j : Nat} (h : j < l.length) : sumsTo l (j + 1) = sumsTo l j ++ [sumB (at0 l j)] := by
  unfold sumsTo at0
  rw [List.take_add_one, List.getElem?_eq_getElem h, List.map_append, List.getD_eq_getElem?_getD, List.getElem?_eq_getElem h]; rfl
theorem sums_at {l : List ByteArray} {i : Nat} (h : i < l.length) : at0 (l.map sumB) i = sumB (at0 l i) := by
  unfold at0
  rw [List.getD_eq_getElem?_getD, List.getD_eq_getElem?_getD, List.getElem?_map, List.getElem?_eq_getElem h]; rfl
theorem toList_eq {a b : ByteArray} : a.toList = b.toList ↔ a = b := by
  constructor
  · intro h
    rw [ByteArray.toList_eq, ByteArray.toList_eq] at h
    cases a; cases b
    rw [ByteArray.mk.injEq]
    exact Array.ext' h
  · intro h; rw [h]
theorem eshown2 (l : List ByteArray) (hl : l.length ≤ 4000) (i : Nat) (hi : i < l.length) (hrow : ∀ i' k', i' < i → k' < i' → ¬ hit l i' k')
    (hnext : (∀ i' k', i' < i + 1 → k' < i' → ¬ hit l i' k') → Ev (fun k => PCd.planisphereref02_Shown.l1 k l (l.map sumB) ((i + 1 : Nat) : Int)) (shownB l)) : ∀ (d j : Nat), j + d = i → (∀ k', k' < j → ¬ hit l i k') →
    Ev (fun k => PCd.planisphereref02_Shown.l2 k l (l.map sumB) i j) (shownB l)
  | 0, j, hj, hok => by
    obtain rfl : j = i := by omega
    refine Ev.step (fun k => ?_) (hnext ?_)
    · rw [PCd.planisphereref02_Shown.l2, if_neg (by omega), wrap_succ j (by omega)]
    · intro i' k' hi' hk'
      by_cases e : i' = j
      · subst e; exact hok k' hk'
      · exact hrow i' k' (by omega) hk'
  | d + 1, j, hj, hok => by
    have hml : (l.map sumB).length = l.length := by rw [List.length_map]
    have hri : ∀ m : List ByteArray, rdOf ByteArray.empty m (i : Int) = at0 m i := fun m => by unfold rdOf at0; rw [Int.toNat_natCast]
    have hrj : ∀ m : List ByteArray, rdOf ByteArray.empty m (j : Int) = at0 m j := fun m => by unfold rdOf at0; rw [Int.toNat_natCast]
    have common : ∀ k, PCd.planisphereref02_Shown.l2 (k + 1) l (l.map sumB) i j = if (sumB (at0 l i)).toList = (sumB (at0 l j)).toList then (if (at0 l i).toList = (at0 l j).toList then PCd.planisphereref02_Shown.l2 k l (l.map sumB) i ((j + 1 : Nat) : Int) else some true) else PCd.planisphereref02_Shown.l2 k l (l.map sumB) i ((j + 1 : Nat) : Int) := by
      intro k
      rw [PCd.planisphereref02_Shown.l2, if_pos (by omega), if_pos (by omega), if_pos (by omega), if_pos (by omega), if_pos (by omega), hri, hrj, hri, hrj, sums_at hi, sums_at (show j < l.length by omega), wrap_succ j (by omega), if_pos (show (i : Int) < (l.length : Int) by omega), if_pos (show (j : Int) < (l.length : Int) by omega)]
    by_cases hh : hit l i j
    · rw [shown_true hi (by omega) hh]
      refine Ev.step (fun k => ?_) (Ev.now _)
      rw [common, if_pos (by rw [hh.1]), if_neg (fun e => hh.2 (toList_eq.1 e))]
    · have ih := eshown2 l hl i hi hrow hnext d (j + 1) (by omega) (fun k' hk' => by
        by_cases e : k' = j
        · rw [e]; exact hh
        · exact hok k' (by omega))
      refine Ev.step (fun k => ?_) ih
      rw [common]
      by_cases h1 : (sumB (at0 l i)).toList = (sumB (at0 l j)).toList
      · rw [if_pos h1]
        by_cases h2 : (at0 l i).toList = (at0 l j).toList
        · rw [if_pos h2]
        · exact absurd ⟨toList_eq.1 h1, fun e => h2 (by rw [e])⟩ hh
      · rw [if_neg h1]
theorem eshown1 (l : List ByteArray) (hl : l.length ≤ 4000) : ∀ (d i : Nat), i + d = l.length → (∀ i' k', i' < i → k' < i' → ¬ hit l i' k') → Ev (fun k => PCd.planisphereref02_Shown.l1 k l (l.map sumB) i) (shownB l)
  | 0, i, hi, hok => by
    obtain rfl : i = l.length := by omega
    rw [shown_false (fun i' k' h1 h2 => hok i' k' h1 h2)]
    refine Ev.step (fun k => ?_) (Ev.now _)
    rw [PCd.planisphereref02_Shown.l1, if_neg (by omega)]
  | d + 1, i, hi, hok => by
    have h2 := eshown2 l hl i (by omega) hok (fun hn => eshown1 l hl d (i + 1) (by omega) hn) i 0 (by omega) (fun k' hk' => absurd hk' (by omega))
    refine Ev.step (fun k => ?_) h2
    rw [PCd.planisphereref02_Shown.l1, if_pos (by omega)]; rfl
theorem eshown0 (l : List ByteArray) (hl : l.length ≤ 4000) (hb : ∀ s ∈ l, Big s.size) : ∀ (d j : Nat), j + d = l.length → Ev (fun k => PCd.planisphereref02_Shown.l0 k l (sumsTo l j) j) (shownB l)
  | 0, j, hj => by
    obtain rfl : j = l.length := by omega
    refine Ev.step (fun k => ?_) (eshown1 l hl l.length 0 (by omega) (fun i' k' h => absurd h (by omega)))
    rw [PCd.planisphereref02_Shown.l0, if_neg (by omega)]
    unfold sumsTo
    rw [List.take_length]; rfl
  | d + 1, j, hj => by
    have hlt : j < l.length := by omega
    have ih := eshown0 l hl hb d (j + 1) (by omega)
    rw [sumsTo_succ hlt] at ih
    refine Ev.step (fun k => ?_) ih
    rw [PCd.planisphereref02_Shown.l0, if_pos (by omega), if_pos (by omega)]
    unfold rdOf
    rw [Int.toNat_natCast, rSum _ (hb _ (getD_mem hlt)), Option.bind_some, if_pos (by rw [sumsTo_len (by omega)]; omega), wrap_succ j (by omega)]
    rfl
def shownIn (l : List ByteArray) : Prop := l.length ≤ 4000 ∧ ∀ s ∈ l, Big s.size
instance (l : List ByteArray) : Decidable (shownIn l) := inferInstanceAs (Decidable (l.length ≤ 4000 ∧ ∀ s ∈ l, Big s.size))
def planisphereref02_Shown.f (l0 : List ByteArray) : Option Bool := if shownIn l0 then some (shownB l0) else none
theorem planisphereref02_Shown.calls (A0 : Option Addr) (c0 : Nat) (l0 : List ByteArray) (r : Bool) (w : World) (hr0 : Kd.C Kd.string w A0 l0.length l0) (hc0 : l0.length ≤ c0) (h : planisphereref02_Shown.f l0 = some r) :
    Calls Tryd.prog 35 #[.slice A0 l0.length c0] w fun e w' => e = .returned (.bool r) ∧ Below w.heap.size w w' := by
  obtain ⟨⟨hl, hb⟩, hr⟩ := if_out h
  obtain ⟨k, hk⟩ := (eshown0 l0 hl hb l0.length 0 (by omega)).rounds
  rw [hr] at hk
  exact PCd.planisphereref02_Shown.calls k A0 c0 l0 r w hr0 hc0 hk
end Go.Proofs.YteleheamnighkaaDoor
end
section
namespace Go.Proofs.YteleheamnighkaaDoor.PCf
open Go.RowKit Go.Proofs.YteleheamnighkaaDoorW.PrintWords Go.Proofs.YteleheamnighkaaDoorW.PrintLast Go.Proofs.YteleheamnighkaaDoorW.PrintMore
attribute [local go_sem] max2_int min2_int max_two min_two max_three min_three max_four min_four   -- for this text's walks alone
set_option linter.unusedVariables false
set_option linter.unusedSimpArgs false
def errW : Option Int → Value
  | none => .nilIface
  | some c => .iface 0 (.int .i64 c)
theorem errW_none : errW none = .nilIface := rfl
theorem errW_some (c : Int) : errW (some c) = .iface 0 (.int .i64 c) := rfl
theorem info9 : (Tryd.prog.info? 9).map (fun i => (i.zero, i.size, i.bytes)) = some (some (.string ⟨#[]⟩), 1, 16) := by kernel_rfl
end Go.Proofs.YteleheamnighkaaDoor.PCf
end
section
namespace Go.Proofs.YteleheamnighkaaDoor.PCf
open Go.RowKit Go.Proofs.YteleheamnighkaaDoorW.PrintWords Go.Proofs.YteleheamnighkaaDoorW.PrintLast Go.Proofs.YteleheamnighkaaDoorW.PrintMore
attribute [local go_sem] max2_int min2_int max_two min_two max_three min_three max_four min_four   -- for this text's walks alone
set_option linter.unusedVariables false
set_option linter.unusedSimpArgs false
mutual
def planisphereref02_Made.l0 : Nat → ByteArray → Int → Int → List ByteArray → List ByteArray → Int → Option (List ByteArray)
  | 0, _, _, _, _, _, _ => none
  | k + 1, x0, x1, x2, x7, x8, x9 => (planisphereref02_Power.f x1).bind fun t101 => (if x9 < t101 then (planisphereref02_Made.l1 k x0 x1 x2 x7 x8 x9 ([] : List ByteArray) 0) else (planisphereref02_Made.l2 k x7 x8))
def planisphereref02_Made.l1 : Nat → ByteArray → Int → Int → List ByteArray → List ByteArray → Int → List ByteArray → Int → Option (List ByteArray)
  | 0, _, _, _, _, _, _, _, _ => none
  | k + 1, x0, x1, x2, x7, x8, x9, x10, x11 => if x11 < 18 then ((planisphereref01_Decimal.f x9).bind fun t110 => ((planisphereref01_Decimal.f x11).bind fun t111 => ((planisphereref01_Joined.f (([x0, t110, t111] : List ByteArray))).bind fun t115 => (if x7.length < 8796093022208 then ((some (x7 ++ [t115] : List ByteArray)).bind fun y116 => ((planisphereref01_Sum.f t115).bind fun t119 => ((planisphereref02_chained.f t119 x2).bind fun t120 => (if y116.length + t120.length < 8796093022208 then (if 15 < (t120.length : Int) then (if x10.length < 8796093022208 then (planisphereref02_Made.l1 k x0 x1 x2 (y116 ++ t120) x8 x9 (x10 ++ [rdOf ByteArray.empty t120 15]) (wrap64 (x11 + 1))) else (none)) else (none)) else (none))))) else (none))))) else ((planisphereref01_Joined.f x10).bind fun t102 => (if x7.length < 8796093022208 then ((planisphereref01_Sum.f t102).bind fun t106 => (if x8.length < 8796093022208 then (planisphereref02_Made.l0 k x0 x1 x2 (x7 ++ [t102]) (x8 ++ [t106]) (wrap64 (x9 + 1))) else (none))) else (none)))
def planisphereref02_Made.l2 : Nat → List ByteArray → List ByteArray → Option (List ByteArray)
  | 0, _, _ => none
  | k + 1, x7, x8 => if (x8.length : Int) > 1 then (planisphereref02_Made.l3 k x7 x8 ([] : List ByteArray) 0) else (some x7)
def planisphereref02_Made.l3 : Nat → List ByteArray → List ByteArray → List ByteArray → Int → Option (List ByteArray)
  | 0, _, _, _, _ => none
  | k + 1, x7, x8, x15, x16 => if (wrap64 (x16 + 1)) < (x8.length : Int) then (if 0 ≤ x16 then (if x16 < (x8.length : Int) then (if 0 ≤ (wrap64 (x16 + 1)) then ((planisphereref02_node.f (rdOf ByteArray.empty x8 x16) (rdOf ByteArray.empty x8 (wrap64 (x16 + 1)))).bind fun t132 => (if x7.length < 8796093022208 then ((planisphereref02_node.f (rdOf ByteArray.empty x8 x16) (rdOf ByteArray.empty x8 (wrap64 (x16 + 1)))).bind fun t138 => ((planisphereref01_Sum.f t138).bind fun t139 => (if x15.length < 8796093022208 then (planisphereref02_Made.l3 k (x7 ++ [t132]) x8 (x15 ++ [t139]) (wrap64 (x16 + 2))) else (none)))) else (none))) else (none)) else (none)) else (none)) else (planisphereref02_Made.l2 k x7 x15)
end
def planisphereref02_Made.f (k : Nat) (a0 : ByteArray) (a1 : Int) (a2 : Int) : Option (List ByteArray) := planisphereref02_Made.l0 k a0 a1 a2 ([] : List ByteArray) ([] : List ByteArray) 0
def planisphereref02_Made.T23 : Bool × List (List Nat × List Nat) := (true, [([], []), ([], []), ([], []), ([1, 2], [1, 2]), ([3], [3]), ([], []), ([], []), ([6], [6]), ([5, 7], [5, 7]), ([8], [8]), ([4, 9], [4, 9]), ([10], [10]), ([0, 11, 10], [0, 11]), ([12, 12, 0, 1, 2, 3, 4, 5, 6, 7, 8, 9, 10, 11, 12], [0, 12])])
def planisphereref02_Made.B23 : List Nat := [0, 0, 0, 6, 14, 0, 0, 64, 224, 480, 1022, 2046, 4095, 8191]
theorem planisphereref02_Made.tab23 : rtab .any (opsOf Tryd.f36 23) = planisphereref02_Made.T23 := by kernel_rfl
theorem planisphereref02_Made.bits23 : waitsOk planisphereref02_Made.T23.2 planisphereref02_Made.B23 = true := by kernel_rfl
def planisphereref02_Made.T24 : Bool × List (List Nat × List Nat) := (true, [([], []), ([], []), ([], []), ([1, 2], [1, 2]), ([3], [3]), ([], []), ([], []), ([6], [6]), ([5, 7], [5, 7]), ([8], [8]), ([4, 9], [4, 9]), ([10, 10], [10]), ([11], [11]), ([0, 12, 11], [0, 12]), ([13, 13, 0, 1, 2, 3, 4, 5, 6, 7, 8, 9, 10, 11, 12, 13], [0, 13])])
def planisphereref02_Made.B24 : List Nat := [0, 0, 0, 6, 14, 0, 0, 64, 224, 480, 1022, 2046, 4094, 8191, 16383]
theorem planisphereref02_Made.tab24 : rtab .any (opsOf Tryd.f36 24) = planisphereref02_Made.T24 := by kernel_rfl
theorem planisphereref02_Made.bits24 : waitsOk planisphereref02_Made.T24.2 planisphereref02_Made.B24 = true := by kernel_rfl
set_option maxHeartbeats 8000000 in
set_option maxRecDepth 100000 in
theorem planisphereref02_Made.calls (k : Nat) (a0 : ByteArray) (a1 : Int) (a2 : Int) (r : List ByteArray) (w : World) (h : planisphereref02_Made.f k a0 a1 a2 = some r) :
    Calls Tryd.prog 36 #[.string a0, .int .i64 a1, .int .i64 a2] w fun e w' => ∃ v0_ : Value, e = .returned (v0_) ∧ Kd.R Kd.string 9 w' w.heap.size (fun _ => True) v0_ r ∧ Below w.heap.size w w' := by
  have HB := Aside0.mk (Below.refl w.heap.size w)
  have H : (planisphereref02_Made.l0 k a0 a1 a2 ([] : List ByteArray) ([] : List ByteArray) 0) = some r := h
  clear h
  have H' := Aside0.mk H
  clear H
  go_enter Tryd.func36, Tryd.ntmps36
  go_wp2
  go_loopg [7, 8, 9] k (fun kq v7 v8 v9 w' => ∃ (x7_1 : List ByteArray) (x8_1 : List ByteArray) (x9_1 : Int), v9 = .int .i64 x9_1 ∧ Aside0 (planisphereref02_Made.l0 kq a0 a1 a2 x7_1 x8_1 x9_1 = some r) ∧ Aside0 (kq ≤ k) ∧ Aside0 (Kd.R Kd.string 9 w' w.heap.size (fun k_ => some k_ ≠ (v8 : Value).ownBlock) v7 x7_1) ∧ Aside0 (Kd.R Kd.string 9 w' w.heap.size (fun k_ => some k_ ≠ (v7 : Value).ownBlock) v8 x8_1) ∧ Aside0 (Below w.heap.size w w'))
  case atStart => exact ⟨(([] : List ByteArray)), (([] : List ByteArray)), (0), (by first | rfl | (simp; done) | (simp [*]; done)), H', ⟨Nat.le_refl _⟩, ⟨by first | exact Kd.R_nil _ _ _ _ _ | exact Kd.N_nil _ _ _ _ _ | exact Kd.V_nil _ _ _ _ _ | exact Kd.Q_nil _ _ _ _ _ | exact Kd.S_nil _ _ _ _ _⟩, ⟨by first | exact Kd.R_nil _ _ _ _ _ | exact Kd.N_nil _ _ _ _ _ | exact Kd.V_nil _ _ _ _ _ | exact Kd.Q_nil _ _ _ _ _ | exact Kd.S_nil _ _ _ _ _⟩, ⟨by repeat (first | (with_reducible first | exact HB.out | apply below_alloc | apply pw_below_drewN | apply below_drew1) | exact HB.out)⟩⟩
  case round =>
    clear H'
    try clear p2
    try clear c3
    obtain ⟨x7_1, x8_1, x9_1, rfl, HA, HK1, HO_7, HO_8, HB⟩ := hrel
    cases gk with
    | zero => exact absurd HA.out (by simp [planisphereref02_Made.l0])
    | succ k1 =>
      have H := HA.out
      clear HA
      simp only [planisphereref02_Made.l0] at H
      replace H := Option.bind_eq_some_iff.mp H
      obtain ⟨t101, A40, H⟩ := H
      replace H : (if x9_1 < t101 then (planisphereref02_Made.l1 k1 a0 a1 a2 x7_1 x8_1 x9_1 ([] : List ByteArray) 0) else (planisphereref02_Made.l2 k1 x7_1 x8_1)) = some r := H
      have A4 := Aside0.mk A40
      clear A40
      by_cases c5 : x9_1 < t101
      · rw [if_pos c5] at H
        have c5b0 : decide (x9_1 < t101) = true := decide_eq_true c5
        clear c5
        have H' := Aside0.mk H
        clear H
        go_wp2_with (first | ((with_reducible refine gate_callee (f := 55) rfl ?_); refine goesL_ (some 19) rfl rfl Tryd.func55 (by kernel_rfl) rfl #[.int .i64 a1] rfl (by (try simp only [List.map_toArray, List.map_cons, List.map_nil]); first | done | rfl | (simp only [List.length_drop, List.length_take]; rfl)) ?_; (with_reducible refine (planisphereref02_Power.callsB a1 t101 _ A4.out).mono ?_); clear A4; rintro e w6 ⟨rfl, hb⟩; refine ⟨_, rfl, ?_⟩; have n0_ := Aside0.mk (Kd.R_below (by (with_reducible repeat (first | apply Kd.R_alloc | apply Kd.R_drewN | apply Kd.R_drew)); exact HO_7.out) hb); have n1_ := Aside0.mk (Kd.R_below (by (with_reducible repeat (first | apply Kd.R_alloc | apply Kd.R_drewN | apply Kd.R_drew)); exact HO_8.out) hb); have n2_ := Aside0.mk (below_step (by repeat (first | (with_reducible first | exact HB.out | apply below_alloc | apply pw_below_drewN | apply below_drew1) | exact HB.out)) hb); clear HO_7; clear HO_8; clear HB; have HO_7 := n0_; have HO_8 := n1_; have HB := n2_; clear n0_ n1_ n2_; (try clear hb); (try clear hb2); (try clear hk); (try clear hi)))
        go_loopg [7, 10, 11] k1 (fun kq v7 v10 v11 w' => ∃ (x7_2 : List ByteArray) (x10_2 : List ByteArray) (x11_2 : Int), v11 = .int .i64 x11_2 ∧ Aside0 (planisphereref02_Made.l1 kq a0 a1 a2 x7_2 x8_1 x9_1 x10_2 x11_2 = some r) ∧ Aside0 (kq ≤ k1) ∧ Aside0 (Kd.R Kd.string 9 w' w.heap.size (fun k_ => some k_ ≠ (u8 : Value).ownBlock ∧ some k_ ≠ (v10 : Value).ownBlock) v7 x7_2) ∧ Aside0 (Kd.R Kd.string 9 w' w.heap.size (fun k_ => some k_ ≠ (v7 : Value).ownBlock ∧ some k_ ≠ (v10 : Value).ownBlock) u8 x8_1) ∧ Aside0 (Kd.R Kd.string 9 w' w.heap.size (fun k_ => some k_ ≠ (v7 : Value).ownBlock ∧ some k_ ≠ (u8 : Value).ownBlock) v10 x10_2) ∧ Aside0 (Below w.heap.size w w'))
        case atStart => exact ⟨(x7_1), (([] : List ByteArray)), (0), (by first | rfl | (simp; done) | (simp [*]; done)), H', ⟨Nat.le_refl _⟩, ⟨by (with_reducible repeat (first | apply Kd.R_alloc | apply Kd.R_drewN | apply Kd.R_drew)); exact Kd.R_mono HO_7.out (fun _ hk => ⟨hk, (by simp [Value.ownBlock])⟩)⟩, ⟨by (with_reducible repeat (first | apply Kd.R_alloc | apply Kd.R_drewN | apply Kd.R_drew)); exact Kd.R_mono HO_8.out (fun _ hk => ⟨hk, (by simp [Value.ownBlock])⟩)⟩, ⟨by first | exact Kd.R_nil _ _ _ _ _ | exact Kd.N_nil _ _ _ _ _ | exact Kd.V_nil _ _ _ _ _ | exact Kd.Q_nil _ _ _ _ _ | exact Kd.S_nil _ _ _ _ _⟩, ⟨by repeat (first | (with_reducible first | exact HB.out | apply below_alloc | apply pw_below_drewN | apply below_drew1) | exact HB.out)⟩⟩
        case round =>
          clear H'
          try clear p2
          try clear c3
          try clear c5
          try clear c5b0
          try clear p2
          obtain ⟨x7_2, x10_2, x11_2, rfl, HA, HK2, HO_7, HO_8, HO_10, HB⟩ := hrel
          cases gk with
          | zero => exact absurd HA.out (by simp [planisphereref02_Made.l1])
          | succ k2 =>
            have H := HA.out
            clear HA
            simp only [planisphereref02_Made.l1] at H
            by_cases c7 : x11_2 < 18
            · rw [if_pos c7] at H
              have c7b0 : decide (x11_2 < 18) = true := decide_eq_true c7
              clear c7
              replace H := Option.bind_eq_some_iff.mp H
              obtain ⟨t110, A80, H⟩ := H
              replace H : ((planisphereref01_Decimal.f x11_2).bind fun t111 => ((planisphereref01_Joined.f (([a0, t110, t111] : List ByteArray))).bind fun t115 => (if x7_2.length < 8796093022208 then ((some (x7_2 ++ [t115] : List ByteArray)).bind fun y116 => ((planisphereref01_Sum.f t115).bind fun t119 => ((planisphereref02_chained.f t119 a2).bind fun t120 => (if y116.length + t120.length < 8796093022208 then (if 15 < (t120.length : Int) then (if x10_2.length < 8796093022208 then (planisphereref02_Made.l1 k2 a0 a1 a2 (y116 ++ t120) x8_1 x9_1 (x10_2 ++ [rdOf ByteArray.empty t120 15]) (wrap64 (x11_2 + 1))) else (none)) else (none)) else (none))))) else (none)))) = some r := H
              have A8 := Aside0.mk A80
              clear A80
              replace H := Option.bind_eq_some_iff.mp H
              obtain ⟨t111, A90, H⟩ := H
              replace H : ((planisphereref01_Joined.f (([a0, t110, t111] : List ByteArray))).bind fun t115 => (if x7_2.length < 8796093022208 then ((some (x7_2 ++ [t115] : List ByteArray)).bind fun y116 => ((planisphereref01_Sum.f t115).bind fun t119 => ((planisphereref02_chained.f t119 a2).bind fun t120 => (if y116.length + t120.length < 8796093022208 then (if 15 < (t120.length : Int) then (if x10_2.length < 8796093022208 then (planisphereref02_Made.l1 k2 a0 a1 a2 (y116 ++ t120) x8_1 x9_1 (x10_2 ++ [rdOf ByteArray.empty t120 15]) (wrap64 (x11_2 + 1))) else (none)) else (none)) else (none))))) else (none))) = some r := H
              have A9 := Aside0.mk A90
              clear A90
              obtain ⟨y112, hy112⟩ : ∃ y_ : List ByteArray, y_ = (([a0, t110, t111] : List ByteArray)) := ⟨_, rfl⟩
              replace H : ((planisphereref01_Joined.f y112).bind fun t115 => (if x7_2.length < 8796093022208 then ((some (x7_2 ++ [t115] : List ByteArray)).bind fun y116 => ((planisphereref01_Sum.f t115).bind fun t119 => ((planisphereref02_chained.f t119 a2).bind fun t120 => (if y116.length + t120.length < 8796093022208 then (if 15 < (t120.length : Int) then (if x10_2.length < 8796093022208 then (planisphereref02_Made.l1 k2 a0 a1 a2 (y116 ++ t120) x8_1 x9_1 (x10_2 ++ [rdOf ByteArray.empty t120 15]) (wrap64 (x11_2 + 1))) else (none)) else (none)) else (none))))) else (none))) = some r := by first | (rw [hy112]; with_reducible exact H) | (have H2_ := (Option.bind_some _ _).symm.trans H; rw [hy112]; with_reducible exact H2_) | (have H2_ := (Option.bind_some _ _).symm.trans H; with_reducible exact H2_) | with_reducible exact H | (rw [hy112]; exact H) | exact H
              have Ny112 := Aside0.mk hy112
              clear hy112
              replace H := Option.bind_eq_some_iff.mp H
              obtain ⟨t115, A100, H⟩ := H
              replace H : (if x7_2.length < 8796093022208 then ((some (x7_2 ++ [t115] : List ByteArray)).bind fun y116 => ((planisphereref01_Sum.f t115).bind fun t119 => ((planisphereref02_chained.f t119 a2).bind fun t120 => (if y116.length + t120.length < 8796093022208 then (if 15 < (t120.length : Int) then (if x10_2.length < 8796093022208 then (planisphereref02_Made.l1 k2 a0 a1 a2 (y116 ++ t120) x8_1 x9_1 (x10_2 ++ [rdOf ByteArray.empty t120 15]) (wrap64 (x11_2 + 1))) else (none)) else (none)) else (none))))) else (none)) = some r := H
              have A10 := Aside0.mk A100
              clear A100
              by_cases c11 : x7_2.length < 8796093022208
              · rw [if_pos c11] at H
                have LMc11 := Aside0.mk c11
                clear c11
                obtain ⟨y116, hy116⟩ : ∃ y_ : List ByteArray, y_ = (x7_2 ++ [t115]) := ⟨_, rfl⟩
                replace H : ((planisphereref01_Sum.f t115).bind fun t119 => ((planisphereref02_chained.f t119 a2).bind fun t120 => (if y116.length + t120.length < 8796093022208 then (if 15 < (t120.length : Int) then (if x10_2.length < 8796093022208 then (planisphereref02_Made.l1 k2 a0 a1 a2 (y116 ++ t120) x8_1 x9_1 (x10_2 ++ [rdOf ByteArray.empty t120 15]) (wrap64 (x11_2 + 1))) else (none)) else (none)) else (none)))) = some r := by first | (rw [hy116]; with_reducible exact H) | (have H2_ := (Option.bind_some _ _).symm.trans H; rw [hy116]; with_reducible exact H2_) | (have H2_ := (Option.bind_some _ _).symm.trans H; with_reducible exact H2_) | with_reducible exact H | (rw [hy116]; exact H) | exact H
                have Ny116 := Aside0.mk hy116
                clear hy116
                replace H := Option.bind_eq_some_iff.mp H
                obtain ⟨t119, A120, H⟩ := H
                replace H : ((planisphereref02_chained.f t119 a2).bind fun t120 => (if y116.length + t120.length < 8796093022208 then (if 15 < (t120.length : Int) then (if x10_2.length < 8796093022208 then (planisphereref02_Made.l1 k2 a0 a1 a2 (y116 ++ t120) x8_1 x9_1 (x10_2 ++ [rdOf ByteArray.empty t120 15]) (wrap64 (x11_2 + 1))) else (none)) else (none)) else (none))) = some r := H
                have A12 := Aside0.mk A120
                clear A120
                replace H := Option.bind_eq_some_iff.mp H
                obtain ⟨t120, A130, H⟩ := H
                replace H : (if y116.length + t120.length < 8796093022208 then (if 15 < (t120.length : Int) then (if x10_2.length < 8796093022208 then (planisphereref02_Made.l1 k2 a0 a1 a2 (y116 ++ t120) x8_1 x9_1 (x10_2 ++ [rdOf ByteArray.empty t120 15]) (wrap64 (x11_2 + 1))) else (none)) else (none)) else (none)) = some r := H
                have A13 := Aside0.mk A130
                clear A130
                by_cases c14 : y116.length + t120.length < 8796093022208
                · rw [if_pos c14] at H
                  have LMc14 := Aside0.mk c14
                  clear c14
                  obtain ⟨y123, hy123⟩ : ∃ y_ : List ByteArray, y_ = (y116 ++ t120) := ⟨_, rfl⟩
                  replace H : (if 15 < (t120.length : Int) then (if x10_2.length < 8796093022208 then (planisphereref02_Made.l1 k2 a0 a1 a2 y123 x8_1 x9_1 (x10_2 ++ [rdOf ByteArray.empty t120 15]) (wrap64 (x11_2 + 1))) else (none)) else (none)) = some r := by first | (rw [hy123]; with_reducible exact H) | (have H2_ := (Option.bind_some _ _).symm.trans H; rw [hy123]; with_reducible exact H2_) | (have H2_ := (Option.bind_some _ _).symm.trans H; with_reducible exact H2_) | with_reducible exact H | (rw [hy123]; exact H) | exact H
                  have Ny123 := Aside0.mk hy123
                  clear hy123
                  by_cases c15 : 15 < (t120.length : Int)
                  · rw [if_pos c15] at H
                    have c15b0 : decide (15 < (t120.length : Int)) = true := decide_eq_true c15
                    have c15b1 : decide (15 < t120.length) = true := decide_eq_true (by omega)
                    clear c15
                    by_cases c16 : x10_2.length < 8796093022208
                    · rw [if_pos c16] at H
                      have LMc16 := Aside0.mk c16
                      clear c16
                      obtain ⟨y127, hy127⟩ : ∃ y_ : List ByteArray, y_ = (x10_2 ++ [rdOf ByteArray.empty t120 15]) := ⟨_, rfl⟩
                      replace H : (planisphereref02_Made.l1 k2 a0 a1 a2 y123 x8_1 x9_1 y127 (wrap64 (x11_2 + 1))) = some r := by first | (rw [hy127]; with_reducible exact H) | (have H2_ := (Option.bind_some _ _).symm.trans H; rw [hy127]; with_reducible exact H2_) | (have H2_ := (Option.bind_some _ _).symm.trans H; with_reducible exact H2_) | with_reducible exact H | (rw [hy127]; exact H) | exact H
                      have Ny127 := Aside0.mk hy127
                      clear hy127
                      have H' := Aside0.mk H
                      clear H
                      go_wp2_with (first | ((with_reducible refine gate_callee (f := 47) rfl ?_); refine goesL_ (some 29) rfl rfl Tryd.func47 (by kernel_rfl) rfl #[.int .i64 x9_1] rfl (by (try simp only [List.map_toArray, List.map_cons, List.map_nil]); first | done | rfl | (simp only [List.length_drop, List.length_take]; rfl)) ?_; (with_reducible refine (planisphereref01_Decimal.callsB x9_1 t110 _ A8.out).mono ?_); clear A8; rintro e w17 ⟨rfl, hb⟩; refine ⟨_, rfl, ?_⟩; have n0_ := Aside0.mk (Kd.R_below (by (with_reducible repeat (first | apply Kd.R_alloc | apply Kd.R_drewN | apply Kd.R_drew)); exact HO_7.out) hb); have n1_ := Aside0.mk (Kd.R_below (by (with_reducible repeat (first | apply Kd.R_alloc | apply Kd.R_drewN | apply Kd.R_drew)); exact HO_8.out) hb); have n2_ := Aside0.mk (Kd.R_below (by (with_reducible repeat (first | apply Kd.R_alloc | apply Kd.R_drewN | apply Kd.R_drew)); exact HO_10.out) hb); have n3_ := Aside0.mk (below_step (by repeat (first | (with_reducible first | exact HB.out | apply below_alloc | apply pw_below_drewN | apply below_drew1) | exact HB.out)) hb); clear HO_7; clear HO_8; clear HO_10; clear HB; have HO_7 := n0_; have HO_8 := n1_; have HO_10 := n2_; have HB := n3_; clear n0_ n1_ n2_ n3_; (try clear hb); (try clear hb2); (try clear hk); (try clear hi)) | ((with_reducible refine gate_callee (f := 47) rfl ?_); refine goesL_ (some 31) rfl rfl Tryd.func47 (by kernel_rfl) rfl #[.int .i64 x11_2] rfl (by (try simp only [List.map_toArray, List.map_cons, List.map_nil]); first | done | rfl | (simp only [List.length_drop, List.length_take]; rfl)) ?_; (with_reducible refine (planisphereref01_Decimal.callsB x11_2 t111 _ A9.out).mono ?_); clear A9; rintro e w18 ⟨rfl, hb⟩; refine ⟨_, rfl, ?_⟩; have n0_ := Aside0.mk (Kd.R_below (by (with_reducible repeat (first | apply Kd.R_alloc | apply Kd.R_drewN | apply Kd.R_drew)); exact HO_7.out) hb); have n1_ := Aside0.mk (Kd.R_below (by (with_reducible repeat (first | apply Kd.R_alloc | apply Kd.R_drewN | apply Kd.R_drew)); exact HO_8.out) hb); have n2_ := Aside0.mk (Kd.R_below (by (with_reducible repeat (first | apply Kd.R_alloc | apply Kd.R_drewN | apply Kd.R_drew)); exact HO_10.out) hb); have n3_ := Aside0.mk (below_step (by repeat (first | (with_reducible first | exact HB.out | apply below_alloc | apply pw_below_drewN | apply below_drew1) | exact HB.out)) hb); clear HO_7; clear HO_8; clear HO_10; clear HB; have HO_7 := n0_; have HO_8 := n1_; have HO_10 := n2_; have HB := n3_; clear n0_ n1_ n2_ n3_; (try clear hb); (try clear hb2); (try clear hk); (try clear hi)) | ((with_reducible refine gate_dst (N := 32) rfl ?_); refine Kd.R_lit Kd.string _ 9 ?hg (N := 32) ?hd (xs := ([a0, t110, t111] : List ByteArray)) (inner := [.string a0, .string t110, .string t111]) (ok := fun _ => True) (okp := fun _ => True) ?hr ?hp (fun _ hk => hk) trivial (Below.refl _ _) (Nat.le_refl _) (by simp) ?_; (case hd => rfl); (case hg => rfl); (case hr => first | (go_simp; done) | (go_simp; rfl)); (case hp => exact (Reps.one (show Kd.M Kd.string _ _ _ a0 [.string a0] from rfl) (Reps.one (show Kd.M Kd.string _ _ _ t110 [.string t110] from rfl) (Reps.one (show Kd.M Kd.string _ _ _ t111 [.string t111] from rfl) (Reps.none _ _))))); intro v113 w19 ho20 hb hg_ hnew_; clear hg_ hnew_; (first | rw [← Ny112.out] at ho20 | (simp only [Int.reduceToNat] at ho20; rw [← Ny112.out] at ho20)); have n0_ := Aside0.mk (Kd.R_elder' (by (with_reducible repeat (first | apply Kd.R_alloc | apply Kd.R_drewN | apply Kd.R_drew)); exact HO_7.out) (Kd.R_base ho20) hb); have n1_ := Aside0.mk (Kd.R_elder' (by (with_reducible repeat (first | apply Kd.R_alloc | apply Kd.R_drewN | apply Kd.R_drew)); exact HO_8.out) (Kd.R_base ho20) hb); have n2_ := Aside0.mk (Kd.R_elder' (by (with_reducible repeat (first | apply Kd.R_alloc | apply Kd.R_drewN | apply Kd.R_drew)); exact HO_10.out) (Kd.R_base ho20) hb); have n3_ := Aside0.mk (Kd.R_lower (Kd.R_new' (Kd.R_new' (Kd.R_new' ho20 (Kd.R_lt (by (with_reducible repeat (first | apply Kd.R_alloc | apply Kd.R_drewN | apply Kd.R_drew)); exact HO_7.out))) (Kd.R_lt (by (with_reducible repeat (first | apply Kd.R_alloc | apply Kd.R_drewN | apply Kd.R_drew)); exact HO_8.out))) (Kd.R_lt (by (with_reducible repeat (first | apply Kd.R_alloc | apply Kd.R_drewN | apply Kd.R_drew)); exact HO_10.out))) (below_size (by repeat (first | (with_reducible first | exact HB.out | apply below_alloc | apply pw_below_drewN | apply below_drew1) | exact HB.out)))); have n4_ := Aside0.mk (below_step (by repeat (first | (with_reducible first | exact HB.out | apply below_alloc | apply pw_below_drewN | apply below_drew1) | exact HB.out)) hb); clear HO_7; clear HO_8; clear HO_10; clear HB; have HO_7 := n0_; have HO_8 := n1_; have HO_10 := n2_; have HO114 := n3_; have HB := n4_; clear n0_ n1_ n2_ n3_ n4_; clear hb ho20; obtain ⟨Ao21, co21, eo21⟩ := Kd.R_slice HO114.out; subst eo21) | ((with_reducible refine gate_callee (f := 23) rfl ?_); refine goesL_ (some 33) rfl rfl Tryd.func23 (by kernel_rfl) rfl #[.slice Ao21 y112.length co21] rfl (by (try simp only [List.map_toArray, List.map_cons, List.map_nil]); first | done | rfl | (simp only [List.length_drop, List.length_take]; rfl)) ?_; (with_reducible refine (planisphereref01_Joined.calls _ _ y112 t115 _ ?side1 ?side2 A10.out).mono ?_); clear A10; (case side1 => repeat (first | exact (Kd.R_reads' HO114.out).2.2 | (with_reducible refine Kd.C_alloc ?_ _) | (with_reducible refine Kd.C_drewN ?_ _) | (with_reducible refine Kd.C_drew ?_))); (case side2 => exact (Kd.R_reads' HO114.out).2.1); rintro e w22 ⟨rfl, hb⟩; refine ⟨_, rfl, ?_⟩; have n0_ := Aside0.mk (Kd.R_below (by (with_reducible repeat (first | apply Kd.R_alloc | apply Kd.R_drewN | apply Kd.R_drew)); exact HO_7.out) hb); have n1_ := Aside0.mk (Kd.R_below (by (with_reducible repeat (first | apply Kd.R_alloc | apply Kd.R_drewN | apply Kd.R_drew)); exact HO_8.out) hb); have n2_ := Aside0.mk (Kd.R_below (by (with_reducible repeat (first | apply Kd.R_alloc | apply Kd.R_drewN | apply Kd.R_drew)); exact HO_10.out) hb); have n3_ := Aside0.mk (Kd.R_below (by (with_reducible repeat (first | apply Kd.R_alloc | apply Kd.R_drewN | apply Kd.R_drew)); exact HO114.out) hb); have n4_ := Aside0.mk (below_step (by repeat (first | (with_reducible first | exact HB.out | apply below_alloc | apply pw_below_drewN | apply below_drew1) | exact HB.out)) hb); clear HO_7; clear HO_8; clear HO_10; clear HO114; clear HB; have HO_7 := n0_; have HO_8 := n1_; have HO_10 := n2_; have HO114 := n3_; have HB := n4_; clear n0_ n1_ n2_ n3_ n4_; (try clear hb); (try clear hb2); (try clear hk); (try clear hi)) | ((with_reducible refine gate_builtin (b := .append) (xs := #[.tmp 34, .tmp 36]) rfl ?_); at_builtin; refine Kd.R_append Kd.string (w0 := w) w.heap.size rfl (.tmp 34) (.tmp 36) 22 9 (.string ⟨#[]⟩) 16 rfl Tryd.underlying22 info9 rfl (by decide) (by omega) u7 x7_2 t115 [.string t115] (fun k_ => some k_ ≠ (u8 : Value).ownBlock ∧ some k_ ≠ (u10 : Value).ownBlock ∧ some k_ ≠ (.slice Ao21 y112.length co21 : Value).ownBlock) (fun _ => False) rfl rfl ?aP (fun _ hk => hk.elim) ?aF ?aO ?aB ?aS ?aL ?_; (case aP => exact rfl); (case aB => exact (by repeat (first | (with_reducible first | exact HB.out | apply below_alloc | apply pw_below_drewN | apply below_drew1) | exact HB.out))); (case aF => exact (fun k_ hk => ⟨Kd.fresh' (Kd.R_lt (by (with_reducible repeat (first | apply Kd.R_alloc | apply Kd.R_drewN | apply Kd.R_drew)); exact HO_8.out)) k_ hk, Kd.fresh' (Kd.R_lt (by (with_reducible repeat (first | apply Kd.R_alloc | apply Kd.R_drewN | apply Kd.R_drew)); exact HO_10.out)) k_ hk, Kd.fresh' (Kd.R_lt (by (with_reducible repeat (first | apply Kd.R_alloc | apply Kd.R_drewN | apply Kd.R_drew)); exact HO114.out)) k_ hk⟩)); (case aO => exact (by (with_reducible repeat (first | apply Kd.R_alloc | apply Kd.R_drewN | apply Kd.R_drew)); exact Kd.R_mono HO_7.out (fun _ hk => ⟨hk.1.1, ⟨hk.1.2, hk.2⟩⟩))); (case aS => exact (below_size (by repeat (first | (with_reducible first | exact HB.out | apply below_alloc | apply pw_below_drewN | apply below_drew1) | exact HB.out)))); (case aL => have := LMc11.out; omega); intro v117 w23 ho hb hg hat; rw [← Ny116.out] at ho; have n0_ := Aside0.mk (Kd.R_after (ok := (fun k_ => some k_ ≠ (u10 : Value).ownBlock ∧ some k_ ≠ (.slice Ao21 y112.length co21 : Value).ownBlock)) (by (with_reducible repeat (first | apply Kd.R_alloc | apply Kd.R_drewN | apply Kd.R_drew)); exact Kd.R_mono HO_8.out (fun _ hk => ⟨⟨hk.1.2, hk.2⟩, hk.1.1⟩)) hg hat); have n1_ := Aside0.mk (Kd.R_after (ok := (fun k_ => some k_ ≠ (u8 : Value).ownBlock ∧ some k_ ≠ (.slice Ao21 y112.length co21 : Value).ownBlock)) (by (with_reducible repeat (first | apply Kd.R_alloc | apply Kd.R_drewN | apply Kd.R_drew)); exact Kd.R_mono HO_10.out (fun _ hk => ⟨⟨hk.1.2, hk.2⟩, hk.1.1⟩)) hg hat); have n2_ := Aside0.mk (Kd.R_after (ok := (fun k_ => some k_ ≠ (u8 : Value).ownBlock ∧ some k_ ≠ (u10 : Value).ownBlock)) (by (with_reducible repeat (first | apply Kd.R_alloc | apply Kd.R_drewN | apply Kd.R_drew)); exact Kd.R_mono HO114.out (fun _ hk => ⟨⟨hk.1.2, hk.2⟩, hk.1.1.2⟩)) hg hat); have n3_ := Aside0.mk (hb); have n4_ := Aside0.mk (ho); clear HO_8; clear HO_10; clear HO114; clear HB; clear HO_7; have HO_8 := n0_; have HO_10 := n1_; have HO114 := n2_; have HB := n3_; have HO118 := n4_; clear n0_ n1_ n2_ n3_ n4_; clear ho hb hg hat) | ((with_reducible refine gate_callee (f := 18) rfl ?_); refine goesL_ (some 39) rfl rfl Tryd.func18 (by kernel_rfl) rfl #[.string t115] rfl (by (try simp only [List.map_toArray, List.map_cons, List.map_nil]); first | done | rfl | (simp only [List.length_drop, List.length_take]; rfl)) ?_; (with_reducible refine (planisphereref01_Sum.callsB t115 t119 _ A12.out).mono ?_); clear A12; rintro e w24 ⟨rfl, hb⟩; refine ⟨_, rfl, ?_⟩; have n0_ := Aside0.mk (Kd.R_below (by (with_reducible repeat (first | apply Kd.R_alloc | apply Kd.R_drewN | apply Kd.R_drew)); exact HO_8.out) hb); have n1_ := Aside0.mk (Kd.R_below (by (with_reducible repeat (first | apply Kd.R_alloc | apply Kd.R_drewN | apply Kd.R_drew)); exact HO_10.out) hb); have n2_ := Aside0.mk (Kd.R_below (by (with_reducible repeat (first | apply Kd.R_alloc | apply Kd.R_drewN | apply Kd.R_drew)); exact HO114.out) hb); have n3_ := Aside0.mk (Kd.R_below (by (with_reducible repeat (first | apply Kd.R_alloc | apply Kd.R_drewN | apply Kd.R_drew)); exact HO118.out) hb); have n4_ := Aside0.mk (below_step (by repeat (first | (with_reducible first | exact HB.out | apply below_alloc | apply pw_below_drewN | apply below_drew1) | exact HB.out)) hb); clear HO_8; clear HO_10; clear HO114; clear HO118; clear HB; have HO_8 := n0_; have HO_10 := n1_; have HO114 := n2_; have HO118 := n3_; have HB := n4_; clear n0_ n1_ n2_ n3_ n4_; (try clear hb); (try clear hb2); (try clear hk); (try clear hi)) | ((with_reducible refine gate_callee (f := 66) rfl ?_); refine goesL_ (some 41) rfl rfl Tryd.func66 (by kernel_rfl) rfl #[.string t119, .int .i64 a2] rfl (by (try simp only [List.map_toArray, List.map_cons, List.map_nil]); first | done | rfl | (simp only [List.length_drop, List.length_take]; rfl)) ?_; (with_reducible refine (planisphereref02_chained.calls t119 a2 t120 _ A13.out).mono ?_); clear A13; rintro e w25 ⟨v121, rfl, ho0, hb⟩; refine ⟨_, rfl, ?_⟩; have n0_ := Aside0.mk (Kd.R_elder' (by (with_reducible repeat (first | apply Kd.R_alloc | apply Kd.R_drewN | apply Kd.R_drew)); exact HO_8.out) (Kd.R_base ho0) hb); have n1_ := Aside0.mk (Kd.R_elder' (by (with_reducible repeat (first | apply Kd.R_alloc | apply Kd.R_drewN | apply Kd.R_drew)); exact HO_10.out) (Kd.R_base ho0) hb); have n2_ := Aside0.mk (Kd.R_elder' (by (with_reducible repeat (first | apply Kd.R_alloc | apply Kd.R_drewN | apply Kd.R_drew)); exact HO114.out) (Kd.R_base ho0) hb); have n3_ := Aside0.mk (Kd.R_elder' (by (with_reducible repeat (first | apply Kd.R_alloc | apply Kd.R_drewN | apply Kd.R_drew)); exact HO118.out) (Kd.R_base ho0) hb); have n4_ := Aside0.mk (Kd.R_lower (Kd.R_new' (Kd.R_new' (Kd.R_new' (Kd.R_new' ho0 (Kd.R_lt (by (with_reducible repeat (first | apply Kd.R_alloc | apply Kd.R_drewN | apply Kd.R_drew)); exact HO_8.out))) (Kd.R_lt (by (with_reducible repeat (first | apply Kd.R_alloc | apply Kd.R_drewN | apply Kd.R_drew)); exact HO_10.out))) (Kd.R_lt (by (with_reducible repeat (first | apply Kd.R_alloc | apply Kd.R_drewN | apply Kd.R_drew)); exact HO114.out))) (Kd.R_lt (by (with_reducible repeat (first | apply Kd.R_alloc | apply Kd.R_drewN | apply Kd.R_drew)); exact HO118.out))) (below_size (by repeat (first | (with_reducible first | exact HB.out | apply below_alloc | apply pw_below_drewN | apply below_drew1) | exact HB.out)))); have n5_ := Aside0.mk (below_step (by repeat (first | (with_reducible first | exact HB.out | apply below_alloc | apply pw_below_drewN | apply below_drew1) | exact HB.out)) hb); clear HO_8; clear HO_10; clear HO114; clear HO118; clear HB; have HO_8 := n0_; have HO_10 := n1_; have HO114 := n2_; have HO118 := n3_; have HO122 := n4_; have HB := n5_; clear n0_ n1_ n2_ n3_ n4_ n5_; (try clear hb); (try clear hb2); (try clear hk); (try clear hi); (try clear ho0); obtain ⟨Ao27, co27, eo27⟩ := Kd.R_slice HO122.out; subst eo27) | ((with_reducible refine gate_builtin (b := .append) (xs := #[.tmp 42, .tmp 43]) rfl ?_); at_builtin; refine Kd.R_append_rows Kd.string (w0 := w) w.heap.size rfl (.tmp 42) (.tmp 43) 22 9 (.string ⟨#[]⟩) 16 rfl Tryd.underlying22 info9 rfl (by decide) (by omega) v117 y116 t120 _ _ _ (fun k_ => some k_ ≠ (u8 : Value).ownBlock ∧ some k_ ≠ (u10 : Value).ownBlock ∧ some k_ ≠ (.slice Ao21 y112.length co21 : Value).ownBlock ∧ some k_ ≠ (.slice Ao27 t120.length co27 : Value).ownBlock) (fun _ => False) rfl rfl ?aO ?aR (fun _ _ h => h) (fun _ h => h.elim) ?aF ?aB ?aS ?aL ?_; (case aR => repeat (first | exact (Kd.R_reads' HO122.out).2.2 | (with_reducible refine Kd.C_alloc ?_ _) | (with_reducible refine Kd.C_drewN ?_ _) | (with_reducible refine Kd.C_drew ?_))); (case aB => exact (by repeat (first | (with_reducible first | exact HB.out | apply below_alloc | apply pw_below_drewN | apply below_drew1) | exact HB.out))); (case aF => exact (fun k_ hk => ⟨Kd.fresh' (Kd.R_lt (by (with_reducible repeat (first | apply Kd.R_alloc | apply Kd.R_drewN | apply Kd.R_drew)); exact HO_8.out)) k_ hk, Kd.fresh' (Kd.R_lt (by (with_reducible repeat (first | apply Kd.R_alloc | apply Kd.R_drewN | apply Kd.R_drew)); exact HO_10.out)) k_ hk, Kd.fresh' (Kd.R_lt (by (with_reducible repeat (first | apply Kd.R_alloc | apply Kd.R_drewN | apply Kd.R_drew)); exact HO114.out)) k_ hk, Kd.fresh' (Kd.R_lt (by (with_reducible repeat (first | apply Kd.R_alloc | apply Kd.R_drewN | apply Kd.R_drew)); exact HO122.out)) k_ hk⟩)); (case aO => exact (by (with_reducible repeat (first | apply Kd.R_alloc | apply Kd.R_drewN | apply Kd.R_drew)); exact Kd.R_mono HO118.out (fun _ hk => ⟨hk.1.1, ⟨hk.1.2.1, ⟨hk.1.2.2, hk.2⟩⟩⟩))); (case aS => exact (below_size (by repeat (first | (with_reducible first | exact HB.out | apply below_alloc | apply pw_below_drewN | apply below_drew1) | exact HB.out)))); (case aL => have := LMc14.out; omega); intro v124 w26 ho hb hg hat; rw [← Ny123.out] at ho; have n0_ := Aside0.mk (Kd.R_after (ok := (fun k_ => some k_ ≠ (u10 : Value).ownBlock ∧ some k_ ≠ (.slice Ao21 y112.length co21 : Value).ownBlock ∧ some k_ ≠ (.slice Ao27 t120.length co27 : Value).ownBlock)) (by (with_reducible repeat (first | apply Kd.R_alloc | apply Kd.R_drewN | apply Kd.R_drew)); exact Kd.R_mono HO_8.out (fun _ hk => ⟨⟨hk.1.1.1, ⟨hk.1.1.2, hk.2⟩⟩, hk.1.2⟩)) hg hat); have n1_ := Aside0.mk (Kd.R_after (ok := (fun k_ => some k_ ≠ (u8 : Value).ownBlock ∧ some k_ ≠ (.slice Ao21 y112.length co21 : Value).ownBlock ∧ some k_ ≠ (.slice Ao27 t120.length co27 : Value).ownBlock)) (by (with_reducible repeat (first | apply Kd.R_alloc | apply Kd.R_drewN | apply Kd.R_drew)); exact Kd.R_mono HO_10.out (fun _ hk => ⟨⟨hk.1.1.1, ⟨hk.1.1.2, hk.2⟩⟩, hk.1.2⟩)) hg hat); have n2_ := Aside0.mk (Kd.R_after (ok := (fun k_ => some k_ ≠ (u8 : Value).ownBlock ∧ some k_ ≠ (u10 : Value).ownBlock ∧ some k_ ≠ (.slice Ao27 t120.length co27 : Value).ownBlock)) (by (with_reducible repeat (first | apply Kd.R_alloc | apply Kd.R_drewN | apply Kd.R_drew)); exact Kd.R_mono HO114.out (fun _ hk => ⟨⟨hk.1.1.1, ⟨hk.1.1.2, hk.2⟩⟩, hk.1.2⟩)) hg hat); have n3_ := Aside0.mk (Kd.R_after (ok := (fun k_ => some k_ ≠ (u8 : Value).ownBlock ∧ some k_ ≠ (u10 : Value).ownBlock ∧ some k_ ≠ (.slice Ao21 y112.length co21 : Value).ownBlock)) (by (with_reducible repeat (first | apply Kd.R_alloc | apply Kd.R_drewN | apply Kd.R_drew)); exact Kd.R_mono HO122.out (fun _ hk => ⟨⟨hk.1.1.1.2, ⟨hk.1.1.2, hk.1.2⟩⟩, hk.2⟩)) hg hat); have n4_ := Aside0.mk (hb); have n5_ := Aside0.mk (ho); clear HO_8; clear HO_10; clear HO114; clear HO122; clear HB; clear HO118; have HO_8 := n0_; have HO_10 := n1_; have HO114 := n2_; have HO122 := n3_; have HB := n4_; have HO125 := n5_; clear n0_ n1_ n2_ n3_ n4_ n5_; clear ho hb hg hat; have p126 : 0 ≤ (15 : Int) := (by omega); have q126 : 15 < (t120.length : Int) := of_decide_eq_true (by first | (with_reducible assumption) | assumption); obtain ⟨ad126, e126, hx126_0⟩ := Kd.at_string (Kd.R_reads' HO122.out).2.2 15 p126 q126; cases e126; (try simp only [show (15 : Int).toNat = 15 from rfl, Nat.reduceMul, Nat.reduceEqDiff, Go.Addr.add, ↓reduceIte] at hx126_0); have qi126 : (15 < t120.length) = True := eq_true (by omega); (try rw [show ((15 : Int)).toNat = 15 from rfl] at hx126_0); replace p126 := eq_true p126; replace q126 := eq_true q126) | ((with_reducible refine gate_builtin (b := .append) (xs := #[.tmp 45, .tmp 49]) rfl ?_); at_builtin; refine Kd.R_append Kd.string (w0 := w) w.heap.size rfl (.tmp 45) (.tmp 49) 22 9 (.string ⟨#[]⟩) 16 rfl Tryd.underlying22 info9 rfl (by decide) (by omega) u10 x10_2 (rdOf ByteArray.empty t120 15) [.string (rdOf ByteArray.empty t120 15)] (fun k_ => some k_ ≠ (u8 : Value).ownBlock ∧ some k_ ≠ (.slice Ao21 y112.length co21 : Value).ownBlock ∧ some k_ ≠ (.slice (some ad126) t120.length co27 : Value).ownBlock ∧ some k_ ≠ (v124 : Value).ownBlock) (fun _ => False) rfl rfl ?aP (fun _ hk => hk.elim) ?aF ?aO ?aB ?aS ?aL ?_; (case aP => exact rfl); (case aB => exact (by repeat (first | (with_reducible first | exact HB.out | apply below_alloc | apply pw_below_drewN | apply below_drew1) | exact HB.out))); (case aF => exact (fun k_ hk => ⟨Kd.fresh' (Kd.R_lt (by (with_reducible repeat (first | apply Kd.R_alloc | apply Kd.R_drewN | apply Kd.R_drew)); exact HO_8.out)) k_ hk, Kd.fresh' (Kd.R_lt (by (with_reducible repeat (first | apply Kd.R_alloc | apply Kd.R_drewN | apply Kd.R_drew)); exact HO114.out)) k_ hk, Kd.fresh' (Kd.R_lt (by (with_reducible repeat (first | apply Kd.R_alloc | apply Kd.R_drewN | apply Kd.R_drew)); exact HO122.out)) k_ hk, Kd.fresh' (Kd.R_lt (by (with_reducible repeat (first | apply Kd.R_alloc | apply Kd.R_drewN | apply Kd.R_drew)); exact HO125.out)) k_ hk⟩)); (case aO => exact (by (with_reducible repeat (first | apply Kd.R_alloc | apply Kd.R_drewN | apply Kd.R_drew)); exact Kd.R_mono HO_10.out (fun _ hk => ⟨hk.1.1, ⟨hk.1.2.1, ⟨hk.1.2.2, hk.2⟩⟩⟩))); (case aS => exact (below_size (by repeat (first | (with_reducible first | exact HB.out | apply below_alloc | apply pw_below_drewN | apply below_drew1) | exact HB.out)))); (case aL => have := LMc16.out; omega); intro v128 w28 ho hb hg hat; rw [← Ny127.out] at ho; have n0_ := Aside0.mk (Kd.R_after (ok := (fun k_ => some k_ ≠ (.slice Ao21 y112.length co21 : Value).ownBlock ∧ some k_ ≠ (.slice (some ad126) t120.length co27 : Value).ownBlock ∧ some k_ ≠ (v124 : Value).ownBlock)) (by (with_reducible repeat (first | apply Kd.R_alloc | apply Kd.R_drewN | apply Kd.R_drew)); exact Kd.R_mono HO_8.out (fun _ hk => ⟨⟨hk.1.2.1, ⟨hk.1.2.2, hk.2⟩⟩, hk.1.1⟩)) hg hat); have n1_ := Aside0.mk (Kd.R_after (ok := (fun k_ => some k_ ≠ (u8 : Value).ownBlock ∧ some k_ ≠ (.slice (some ad126) t120.length co27 : Value).ownBlock ∧ some k_ ≠ (v124 : Value).ownBlock)) (by (with_reducible repeat (first | apply Kd.R_alloc | apply Kd.R_drewN | apply Kd.R_drew)); exact Kd.R_mono HO114.out (fun _ hk => ⟨⟨hk.1.1, ⟨hk.1.2.2, hk.2⟩⟩, hk.1.2.1⟩)) hg hat); have n2_ := Aside0.mk (Kd.R_after (ok := (fun k_ => some k_ ≠ (u8 : Value).ownBlock ∧ some k_ ≠ (.slice Ao21 y112.length co21 : Value).ownBlock ∧ some k_ ≠ (v124 : Value).ownBlock)) (by (with_reducible repeat (first | apply Kd.R_alloc | apply Kd.R_drewN | apply Kd.R_drew)); exact Kd.R_mono HO122.out (fun _ hk => ⟨⟨hk.1.1, ⟨hk.1.2.2, hk.2⟩⟩, hk.1.2.1⟩)) hg hat); have n3_ := Aside0.mk (Kd.R_after (ok := (fun k_ => some k_ ≠ (u8 : Value).ownBlock ∧ some k_ ≠ (.slice Ao21 y112.length co21 : Value).ownBlock ∧ some k_ ≠ (.slice (some ad126) t120.length co27 : Value).ownBlock)) (by (with_reducible repeat (first | apply Kd.R_alloc | apply Kd.R_drewN | apply Kd.R_drew)); exact Kd.R_mono HO125.out (fun _ hk => ⟨⟨hk.1, ⟨hk.2.2.1, hk.2.2.2⟩⟩, hk.2.1⟩)) hg hat); have n4_ := Aside0.mk (hb); have n5_ := Aside0.mk (ho); clear HO_8; clear HO114; clear HO122; clear HO125; clear HB; clear HO_10; have HO_8 := n0_; have HO114 := n1_; have HO122 := n2_; have HO125 := n3_; have HB := n4_; have HO129 := n5_; clear n0_ n1_ n2_ n3_ n4_ n5_; clear ho hb hg hat))
                      go_roundg k2
                      case measure => have := HK1.out; have := HK2.out; omega
                      case rel => exact ⟨(y123), (y127), (wrap64 (x11_2 + 1)), (by first | rfl | (simp; done) | (simp [*]; done)), H', ⟨by have := HK1.out; have := HK2.out; omega⟩, ⟨by (with_reducible repeat (first | apply Kd.R_alloc | apply Kd.R_drewN | apply Kd.R_drew)); exact Kd.R_mono HO125.out (fun _ hk => ⟨hk.1.1, hk.2⟩)⟩, ⟨by (with_reducible repeat (first | apply Kd.R_alloc | apply Kd.R_drewN | apply Kd.R_drew)); exact Kd.R_mono HO_8.out (fun _ hk => ⟨hk.1.2.2, hk.2⟩)⟩, ⟨by (with_reducible repeat (first | apply Kd.R_alloc | apply Kd.R_drewN | apply Kd.R_drew)); exact Kd.R_mono HO129.out (fun _ hk => ⟨hk.2.2.2, hk.1⟩)⟩, ⟨by repeat (first | (with_reducible first | exact HB.out | apply below_alloc | apply pw_below_drewN | apply below_drew1) | exact HB.out)⟩⟩
                    · rw [if_neg c16] at H
                      exact absurd H (by simp)
                  · rw [if_neg c15] at H
                    exact absurd H (by simp)
                · rw [if_neg c14] at H
                  exact absurd H (by simp)
              · rw [if_neg c11] at H
                exact absurd H (by simp)
            · rw [if_neg c7] at H
              have c7b0 : decide (x11_2 < 18) = false := decide_eq_false c7
              clear c7
              replace H := Option.bind_eq_some_iff.mp H
              obtain ⟨t102, A290, H⟩ := H
              replace H : (if x7_2.length < 8796093022208 then ((planisphereref01_Sum.f t102).bind fun t106 => (if x8_1.length < 8796093022208 then (planisphereref02_Made.l0 k2 a0 a1 a2 (x7_2 ++ [t102]) (x8_1 ++ [t106]) (wrap64 (x9_1 + 1))) else (none))) else (none)) = some r := H
              have A29 := Aside0.mk A290
              clear A290
              by_cases c30 : x7_2.length < 8796093022208
              · rw [if_pos c30] at H
                have LMc30 := Aside0.mk c30
                clear c30
                obtain ⟨y103, hy103⟩ : ∃ y_ : List ByteArray, y_ = (x7_2 ++ [t102]) := ⟨_, rfl⟩
                replace H : ((planisphereref01_Sum.f t102).bind fun t106 => (if x8_1.length < 8796093022208 then (planisphereref02_Made.l0 k2 a0 a1 a2 y103 (x8_1 ++ [t106]) (wrap64 (x9_1 + 1))) else (none))) = some r := by first | (rw [hy103]; with_reducible exact H) | (have H2_ := (Option.bind_some _ _).symm.trans H; rw [hy103]; with_reducible exact H2_) | (have H2_ := (Option.bind_some _ _).symm.trans H; with_reducible exact H2_) | with_reducible exact H | (rw [hy103]; exact H) | exact H
                have Ny103 := Aside0.mk hy103
                clear hy103
                replace H := Option.bind_eq_some_iff.mp H
                obtain ⟨t106, A310, H⟩ := H
                replace H : (if x8_1.length < 8796093022208 then (planisphereref02_Made.l0 k2 a0 a1 a2 y103 (x8_1 ++ [t106]) (wrap64 (x9_1 + 1))) else (none)) = some r := H
                have A31 := Aside0.mk A310
                clear A310
                by_cases c32 : x8_1.length < 8796093022208
                · rw [if_pos c32] at H
                  have LMc32 := Aside0.mk c32
                  clear c32
                  obtain ⟨y107, hy107⟩ : ∃ y_ : List ByteArray, y_ = (x8_1 ++ [t106]) := ⟨_, rfl⟩
                  replace H : (planisphereref02_Made.l0 k2 a0 a1 a2 y103 y107 (wrap64 (x9_1 + 1))) = some r := by first | (rw [hy107]; with_reducible exact H) | (have H2_ := (Option.bind_some _ _).symm.trans H; rw [hy107]; with_reducible exact H2_) | (have H2_ := (Option.bind_some _ _).symm.trans H; with_reducible exact H2_) | with_reducible exact H | (rw [hy107]; exact H) | exact H
                  have Ny107 := Aside0.mk hy107
                  clear hy107
                  have H' := Aside0.mk H
                  clear H
                  obtain ⟨Ao33, co33, eo33⟩ := Kd.R_slice HO_10.out
                  subst eo33
                  go_wp2_with (first | ((with_reducible refine gate_callee (f := 23) rfl ?_); refine goesL_ (some 52) rfl rfl Tryd.func23 (by kernel_rfl) rfl #[.slice Ao33 x10_2.length co33] rfl (by (try simp only [List.map_toArray, List.map_cons, List.map_nil]); first | done | rfl | (simp only [List.length_drop, List.length_take]; rfl)) ?_; (with_reducible refine (planisphereref01_Joined.calls _ _ x10_2 t102 _ ?side1 ?side2 A29.out).mono ?_); clear A29; (case side1 => repeat (first | exact (Kd.R_reads' HO_10.out).2.2 | (with_reducible refine Kd.C_alloc ?_ _) | (with_reducible refine Kd.C_drewN ?_ _) | (with_reducible refine Kd.C_drew ?_))); (case side2 => exact (Kd.R_reads' HO_10.out).2.1); rintro e w34 ⟨rfl, hb⟩; refine ⟨_, rfl, ?_⟩; have n0_ := Aside0.mk (Kd.R_below (by (with_reducible repeat (first | apply Kd.R_alloc | apply Kd.R_drewN | apply Kd.R_drew)); exact HO_7.out) hb); have n1_ := Aside0.mk (Kd.R_below (by (with_reducible repeat (first | apply Kd.R_alloc | apply Kd.R_drewN | apply Kd.R_drew)); exact HO_8.out) hb); have n2_ := Aside0.mk (Kd.R_below (by (with_reducible repeat (first | apply Kd.R_alloc | apply Kd.R_drewN | apply Kd.R_drew)); exact HO_10.out) hb); have n3_ := Aside0.mk (below_step (by repeat (first | (with_reducible first | exact HB.out | apply below_alloc | apply pw_below_drewN | apply below_drew1) | exact HB.out)) hb); clear HO_7; clear HO_8; clear HO_10; clear HB; have HO_7 := n0_; have HO_8 := n1_; have HO_10 := n2_; have HB := n3_; clear n0_ n1_ n2_ n3_; (try clear hb); (try clear hb2); (try clear hk); (try clear hi)) | ((with_reducible refine gate_builtin (b := .append) (xs := #[.tmp 53, .tmp 55]) rfl ?_); at_builtin; refine Kd.R_append Kd.string (w0 := w) w.heap.size rfl (.tmp 53) (.tmp 55) 22 9 (.string ⟨#[]⟩) 16 rfl Tryd.underlying22 info9 rfl (by decide) (by omega) u7 x7_2 t102 [.string t102] (fun k_ => some k_ ≠ (u8 : Value).ownBlock ∧ some k_ ≠ (.slice Ao33 x10_2.length co33 : Value).ownBlock) (fun _ => False) rfl rfl ?aP (fun _ hk => hk.elim) ?aF ?aO ?aB ?aS ?aL ?_; (case aP => exact rfl); (case aB => exact (by repeat (first | (with_reducible first | exact HB.out | apply below_alloc | apply pw_below_drewN | apply below_drew1) | exact HB.out))); (case aF => exact (fun k_ hk => ⟨Kd.fresh' (Kd.R_lt (by (with_reducible repeat (first | apply Kd.R_alloc | apply Kd.R_drewN | apply Kd.R_drew)); exact HO_8.out)) k_ hk, Kd.fresh' (Kd.R_lt (by (with_reducible repeat (first | apply Kd.R_alloc | apply Kd.R_drewN | apply Kd.R_drew)); exact HO_10.out)) k_ hk⟩)); (case aO => exact (by (with_reducible repeat (first | apply Kd.R_alloc | apply Kd.R_drewN | apply Kd.R_drew)); exact HO_7.out)); (case aS => exact (below_size (by repeat (first | (with_reducible first | exact HB.out | apply below_alloc | apply pw_below_drewN | apply below_drew1) | exact HB.out)))); (case aL => have := LMc30.out; omega); intro v104 w35 ho hb hg hat; rw [← Ny103.out] at ho; have n0_ := Aside0.mk (Kd.R_after (ok := (fun k_ => some k_ ≠ (.slice Ao33 x10_2.length co33 : Value).ownBlock)) (by (with_reducible repeat (first | apply Kd.R_alloc | apply Kd.R_drewN | apply Kd.R_drew)); exact Kd.R_mono HO_8.out (fun _ hk => ⟨hk.2, hk.1⟩)) hg hat); have n1_ := Aside0.mk (Kd.R_after (ok := (fun k_ => some k_ ≠ (u8 : Value).ownBlock)) (by (with_reducible repeat (first | apply Kd.R_alloc | apply Kd.R_drewN | apply Kd.R_drew)); exact Kd.R_mono HO_10.out (fun _ hk => ⟨hk.2, hk.1⟩)) hg hat); have n2_ := Aside0.mk (hb); have n3_ := Aside0.mk (ho); clear HO_8; clear HO_10; clear HB; clear HO_7; have HO_8 := n0_; have HO_10 := n1_; have HB := n2_; have HO105 := n3_; clear n0_ n1_ n2_ n3_; clear ho hb hg hat) | ((with_reducible refine gate_callee (f := 18) rfl ?_); refine goesL_ (some 59) rfl rfl Tryd.func18 (by kernel_rfl) rfl #[.string t102] rfl (by (try simp only [List.map_toArray, List.map_cons, List.map_nil]); first | done | rfl | (simp only [List.length_drop, List.length_take]; rfl)) ?_; (with_reducible refine (planisphereref01_Sum.callsB t102 t106 _ A31.out).mono ?_); clear A31; rintro e w36 ⟨rfl, hb⟩; refine ⟨_, rfl, ?_⟩; have n0_ := Aside0.mk (Kd.R_below (by (with_reducible repeat (first | apply Kd.R_alloc | apply Kd.R_drewN | apply Kd.R_drew)); exact HO_8.out) hb); have n1_ := Aside0.mk (Kd.R_below (by (with_reducible repeat (first | apply Kd.R_alloc | apply Kd.R_drewN | apply Kd.R_drew)); exact HO_10.out) hb); have n2_ := Aside0.mk (Kd.R_below (by (with_reducible repeat (first | apply Kd.R_alloc | apply Kd.R_drewN | apply Kd.R_drew)); exact HO105.out) hb); have n3_ := Aside0.mk (below_step (by repeat (first | (with_reducible first | exact HB.out | apply below_alloc | apply pw_below_drewN | apply below_drew1) | exact HB.out)) hb); clear HO_8; clear HO_10; clear HO105; clear HB; have HO_8 := n0_; have HO_10 := n1_; have HO105 := n2_; have HB := n3_; clear n0_ n1_ n2_ n3_; (try clear hb); (try clear hb2); (try clear hk); (try clear hi)) | ((with_reducible refine gate_builtin (b := .append) (xs := #[.tmp 57, .tmp 60]) rfl ?_); at_builtin; refine Kd.R_append Kd.string (w0 := w) w.heap.size rfl (.tmp 57) (.tmp 60) 22 9 (.string ⟨#[]⟩) 16 rfl Tryd.underlying22 info9 rfl (by decide) (by omega) u8 x8_1 t106 [.string t106] (fun k_ => some k_ ≠ (.slice Ao33 x10_2.length co33 : Value).ownBlock ∧ some k_ ≠ (v104 : Value).ownBlock) (fun _ => False) rfl rfl ?aP (fun _ hk => hk.elim) ?aF ?aO ?aB ?aS ?aL ?_; (case aP => exact rfl); (case aB => exact (by repeat (first | (with_reducible first | exact HB.out | apply below_alloc | apply pw_below_drewN | apply below_drew1) | exact HB.out))); (case aF => exact (fun k_ hk => ⟨Kd.fresh' (Kd.R_lt (by (with_reducible repeat (first | apply Kd.R_alloc | apply Kd.R_drewN | apply Kd.R_drew)); exact HO_10.out)) k_ hk, Kd.fresh' (Kd.R_lt (by (with_reducible repeat (first | apply Kd.R_alloc | apply Kd.R_drewN | apply Kd.R_drew)); exact HO105.out)) k_ hk⟩)); (case aO => exact (by (with_reducible repeat (first | apply Kd.R_alloc | apply Kd.R_drewN | apply Kd.R_drew)); exact HO_8.out)); (case aS => exact (below_size (by repeat (first | (with_reducible first | exact HB.out | apply below_alloc | apply pw_below_drewN | apply below_drew1) | exact HB.out)))); (case aL => have := LMc32.out; omega); intro v108 w37 ho hb hg hat; rw [← Ny107.out] at ho; have n0_ := Aside0.mk (Kd.R_after (ok := (fun k_ => some k_ ≠ (v104 : Value).ownBlock)) (by (with_reducible repeat (first | apply Kd.R_alloc | apply Kd.R_drewN | apply Kd.R_drew)); exact Kd.R_mono HO_10.out (fun _ hk => ⟨hk.2, hk.1⟩)) hg hat); have n1_ := Aside0.mk (Kd.R_after (ok := (fun k_ => some k_ ≠ (.slice Ao33 x10_2.length co33 : Value).ownBlock)) (by (with_reducible repeat (first | apply Kd.R_alloc | apply Kd.R_drewN | apply Kd.R_drew)); exact Kd.R_mono HO105.out (fun _ hk => ⟨hk.2, hk.1⟩)) hg hat); have n2_ := Aside0.mk (hb); have n3_ := Aside0.mk (ho); clear HO_10; clear HO105; clear HB; clear HO_8; have HO_10 := n0_; have HO105 := n1_; have HB := n2_; have HO109 := n3_; clear n0_ n1_ n2_ n3_; clear ho hb hg hat))
                  go_roundg k2
                  case measure => have := HK1.out; have := HK2.out; omega
                  case rel => exact ⟨(y103), (y107), (wrap64 (x9_1 + 1)), (by first | rfl | (simp; done) | (simp [*]; done)), H', ⟨by have := HK1.out; have := HK2.out; omega⟩, ⟨by (with_reducible repeat (first | apply Kd.R_alloc | apply Kd.R_drewN | apply Kd.R_drew)); exact Kd.R_mono HO105.out (fun _ hk => hk.2)⟩, ⟨by (with_reducible repeat (first | apply Kd.R_alloc | apply Kd.R_drewN | apply Kd.R_drew)); exact Kd.R_mono HO109.out (fun _ hk => hk.2)⟩, ⟨by repeat (first | (with_reducible first | exact HB.out | apply below_alloc | apply pw_below_drewN | apply below_drew1) | exact HB.out)⟩⟩
                · rw [if_neg c32] at H
                  exact absurd H (by simp)
              · rw [if_neg c30] at H
                exact absurd H (by simp)
      · rw [if_neg c5] at H
        have c5b0 : decide (x9_1 < t101) = false := decide_eq_false c5
        clear c5
        have H' := Aside0.mk H
        clear H
        go_wp2_with (first | ((with_reducible refine gate_callee (f := 55) rfl ?_); refine goesL_ (some 19) rfl rfl Tryd.func55 (by kernel_rfl) rfl #[.int .i64 a1] rfl (by (try simp only [List.map_toArray, List.map_cons, List.map_nil]); first | done | rfl | (simp only [List.length_drop, List.length_take]; rfl)) ?_; (with_reducible refine (planisphereref02_Power.callsB a1 t101 _ A4.out).mono ?_); clear A4; rintro e w38 ⟨rfl, hb⟩; refine ⟨_, rfl, ?_⟩; have n0_ := Aside0.mk (Kd.R_below (by (with_reducible repeat (first | apply Kd.R_alloc | apply Kd.R_drewN | apply Kd.R_drew)); exact HO_7.out) hb); have n1_ := Aside0.mk (Kd.R_below (by (with_reducible repeat (first | apply Kd.R_alloc | apply Kd.R_drewN | apply Kd.R_drew)); exact HO_8.out) hb); have n2_ := Aside0.mk (below_step (by repeat (first | (with_reducible first | exact HB.out | apply below_alloc | apply pw_below_drewN | apply below_drew1) | exact HB.out)) hb); clear HO_7; clear HO_8; clear HB; have HO_7 := n0_; have HO_8 := n1_; have HB := n2_; clear n0_ n1_ n2_; (try clear hb); (try clear hb2); (try clear hk); (try clear hi)))
        go_loopg [7, 8] k1 (fun kq v7 v8 w' => ∃ (x7_2 : List ByteArray) (x8_2 : List ByteArray), Aside0 (planisphereref02_Made.l2 kq x7_2 x8_2 = some r) ∧ Aside0 (kq ≤ k1) ∧ Aside0 (Kd.R Kd.string 9 w' w.heap.size (fun k_ => some k_ ≠ (v8 : Value).ownBlock) v7 x7_2) ∧ Aside0 (Kd.R Kd.string 9 w' w.heap.size (fun k_ => some k_ ≠ (v7 : Value).ownBlock) v8 x8_2) ∧ Aside0 (Below w.heap.size w w'))
        case atStart => exact ⟨(x7_1), (x8_1), H', ⟨Nat.le_refl _⟩, ⟨by (with_reducible repeat (first | apply Kd.R_alloc | apply Kd.R_drewN | apply Kd.R_drew)); exact HO_7.out⟩, ⟨by (with_reducible repeat (first | apply Kd.R_alloc | apply Kd.R_drewN | apply Kd.R_drew)); exact HO_8.out⟩, ⟨by repeat (first | (with_reducible first | exact HB.out | apply below_alloc | apply pw_below_drewN | apply below_drew1) | exact HB.out)⟩⟩
        case round =>
          clear H'
          try clear c1
          try clear p1
          try clear q1
          try clear hx1
          try clear qi1
          try clear c2
          try clear p2
          try clear c3
          try clear c4
          try clear c5
          try clear c5b0
          try clear c6
          try clear p6
          try clear c7
          try clear c7b0
          try clear c11
          try clear p12
          try clear q12
          try clear hx12
          try clear qi12
          try clear c14
          try clear c15
          try clear c15b0
          try clear c15b1
          try clear c16
          try clear c18
          try clear c23
          try clear c30
          try clear c32
          try clear c36
          try clear hx126_0
          try clear p126
          try clear p2
          try clear q126
          obtain ⟨x7_2, x8_2, HA, HK2, HO_7, HO_8, HB⟩ := hrel
          cases gk with
          | zero => exact absurd HA.out (by simp [planisphereref02_Made.l2])
          | succ k2 =>
            have H := HA.out
            clear HA
            simp only [planisphereref02_Made.l2] at H
            by_cases c39 : (x8_2.length : Int) > 1
            · rw [if_pos c39] at H
              have c39b0 : decide (1 < (x8_2.length : Int)) = true := decide_eq_true c39
              have c39b1 : decide (1 < x8_2.length) = true := decide_eq_true (by omega)
              clear c39
              have H' := Aside0.mk H
              clear H
              obtain ⟨Ao40, co40, eo40⟩ := Kd.R_slice HO_8.out
              subst eo40
              go_wp2
              go_loopg [7, 15, 16] k2 (fun kq v7 v15 v16 w' => ∃ (x7_3 : List ByteArray) (x15_3 : List ByteArray) (x16_3 : Int), v16 = .int .i64 x16_3 ∧ Aside0 (planisphereref02_Made.l3 kq x7_3 x8_2 x15_3 x16_3 = some r) ∧ Aside0 (kq ≤ k2) ∧ Aside0 (Kd.R Kd.string 9 w' w.heap.size (fun k_ => some k_ ≠ ((.slice Ao40 x8_2.length co40) : Value).ownBlock ∧ some k_ ≠ (v15 : Value).ownBlock) v7 x7_3) ∧ Aside0 (Kd.R Kd.string 9 w' w.heap.size (fun k_ => some k_ ≠ (v7 : Value).ownBlock ∧ some k_ ≠ (v15 : Value).ownBlock) (.slice Ao40 x8_2.length co40) x8_2) ∧ Aside0 (Kd.R Kd.string 9 w' w.heap.size (fun k_ => some k_ ≠ (v7 : Value).ownBlock ∧ some k_ ≠ ((.slice Ao40 x8_2.length co40) : Value).ownBlock) v15 x15_3) ∧ Aside0 (Below w.heap.size w w'))
              case atStart => exact ⟨(x7_2), (([] : List ByteArray)), (0), (by first | rfl | (simp; done) | (simp [*]; done)), H', ⟨Nat.le_refl _⟩, ⟨by (with_reducible repeat (first | apply Kd.R_alloc | apply Kd.R_drewN | apply Kd.R_drew)); exact Kd.R_mono HO_7.out (fun _ hk => ⟨hk, (by simp [Value.ownBlock])⟩)⟩, ⟨by (with_reducible repeat (first | apply Kd.R_alloc | apply Kd.R_drewN | apply Kd.R_drew)); exact Kd.R_mono HO_8.out (fun _ hk => ⟨hk, (by simp [Value.ownBlock])⟩)⟩, ⟨by first | exact Kd.R_nil _ _ _ _ _ | exact Kd.N_nil _ _ _ _ _ | exact Kd.V_nil _ _ _ _ _ | exact Kd.Q_nil _ _ _ _ _ | exact Kd.S_nil _ _ _ _ _⟩, ⟨by repeat (first | (with_reducible first | exact HB.out | apply below_alloc | apply pw_below_drewN | apply below_drew1) | exact HB.out)⟩⟩
              case round =>
                clear H'
                try clear c1
                try clear p1
                try clear q1
                try clear hx1
                try clear qi1
                try clear c2
                try clear p2
                try clear c3
                try clear c4
                try clear c5
                try clear c5b0
                try clear c6
                try clear p6
                try clear c7
                try clear c7b0
                try clear c11
                try clear p12
                try clear q12
                try clear hx12
                try clear qi12
                try clear c14
                try clear c15
                try clear c15b0
                try clear c15b1
                try clear c16
                try clear c18
                try clear c23
                try clear c30
                try clear c32
                try clear c36
                try clear c39
                try clear c39b0
                try clear c39b1
                try clear hx126_0
                try clear p1
                try clear p12
                try clear p126
                try clear p2
                try clear p6
                try clear q1
                try clear q12
                try clear q126
                obtain ⟨x7_3, x15_3, x16_3, rfl, HA, HK3, HO_7, HO_8, HO_15, HB⟩ := hrel
                cases gk with
                | zero => exact absurd HA.out (by simp [planisphereref02_Made.l3])
                | succ k3 =>
                  have H := HA.out
                  clear HA
                  simp only [planisphereref02_Made.l3] at H
                  by_cases c41 : (wrap64 (x16_3 + 1)) < (x8_2.length : Int)
                  · rw [if_pos c41] at H
                    have c41b0 : decide ((wrap64 (x16_3 + 1)) < (x8_2.length : Int)) = true := decide_eq_true c41
                    clear c41
                    by_cases c42 : 0 ≤ x16_3
                    · rw [if_pos c42] at H
                      have c42b0 : decide (0 ≤ x16_3) = true := decide_eq_true c42
                      clear c42
                      by_cases c43 : x16_3 < (x8_2.length : Int)
                      · rw [if_pos c43] at H
                        have c43b0 : decide (x16_3 < (x8_2.length : Int)) = true := decide_eq_true c43
                        clear c43
                        obtain ⟨ji44, hji44⟩ : ∃ j_ : Int, (wrap64 (x16_3 + 1)) = j_ := ⟨_, rfl⟩
                        replace H : (if 0 ≤ (ji44) then ((planisphereref02_node.f (rdOf ByteArray.empty x8_2 x16_3) (rdOf ByteArray.empty x8_2 (ji44))).bind fun t132 => (if x7_3.length < 8796093022208 then ((planisphereref02_node.f (rdOf ByteArray.empty x8_2 x16_3) (rdOf ByteArray.empty x8_2 (ji44))).bind fun t138 => ((planisphereref01_Sum.f t138).bind fun t139 => (if x15_3.length < 8796093022208 then (planisphereref02_Made.l3 k3 (x7_3 ++ [t132]) x8_2 (x15_3 ++ [t139]) (wrap64 (x16_3 + 2))) else (none)))) else (none))) else (none)) = some r := by first | (rw [hji44] at H; exact H) | (simp only [hji44] at H ⊢; exact H)
                        (try rw [hji44] at c41b0)
                        have hji44w : (IntKind.i64.wrap (x16_3 + 1)) = ji44 := (i64_w _).trans hji44
                        by_cases c45 : 0 ≤ (ji44)
                        · rw [if_pos c45] at H
                          have c45b0 : decide (0 ≤ (ji44)) = true := decide_eq_true c45
                          clear c45
                          replace H := Option.bind_eq_some_iff.mp H
                          obtain ⟨t132, A460, H⟩ := H
                          replace H : (if x7_3.length < 8796093022208 then ((planisphereref02_node.f (rdOf ByteArray.empty x8_2 x16_3) (rdOf ByteArray.empty x8_2 (ji44))).bind fun t138 => ((planisphereref01_Sum.f t138).bind fun t139 => (if x15_3.length < 8796093022208 then (planisphereref02_Made.l3 k3 (x7_3 ++ [t132]) x8_2 (x15_3 ++ [t139]) (wrap64 (x16_3 + 2))) else (none)))) else (none)) = some r := H
                          have A46 := Aside0.mk A460
                          clear A460
                          by_cases c47 : x7_3.length < 8796093022208
                          · rw [if_pos c47] at H
                            have LMc47 := Aside0.mk c47
                            clear c47
                            obtain ⟨y133, hy133⟩ : ∃ y_ : List ByteArray, y_ = (x7_3 ++ [t132]) := ⟨_, rfl⟩
                            replace H : ((planisphereref02_node.f (rdOf ByteArray.empty x8_2 x16_3) (rdOf ByteArray.empty x8_2 (ji44))).bind fun t138 => ((planisphereref01_Sum.f t138).bind fun t139 => (if x15_3.length < 8796093022208 then (planisphereref02_Made.l3 k3 y133 x8_2 (x15_3 ++ [t139]) (wrap64 (x16_3 + 2))) else (none)))) = some r := by first | (rw [hy133]; with_reducible exact H) | (have H2_ := (Option.bind_some _ _).symm.trans H; rw [hy133]; with_reducible exact H2_) | (have H2_ := (Option.bind_some _ _).symm.trans H; with_reducible exact H2_) | with_reducible exact H | (rw [hy133]; exact H) | exact H
                            have Ny133 := Aside0.mk hy133
                            clear hy133
                            replace H := Option.bind_eq_some_iff.mp H
                            obtain ⟨t138, A480, H⟩ := H
                            replace H : ((planisphereref01_Sum.f t138).bind fun t139 => (if x15_3.length < 8796093022208 then (planisphereref02_Made.l3 k3 y133 x8_2 (x15_3 ++ [t139]) (wrap64 (x16_3 + 2))) else (none))) = some r := H
                            have A48 := Aside0.mk A480
                            clear A480
                            replace H := Option.bind_eq_some_iff.mp H
                            obtain ⟨t139, A490, H⟩ := H
                            replace H : (if x15_3.length < 8796093022208 then (planisphereref02_Made.l3 k3 y133 x8_2 (x15_3 ++ [t139]) (wrap64 (x16_3 + 2))) else (none)) = some r := H
                            have A49 := Aside0.mk A490
                            clear A490
                            by_cases c50 : x15_3.length < 8796093022208
                            · rw [if_pos c50] at H
                              have LMc50 := Aside0.mk c50
                              clear c50
                              obtain ⟨y140, hy140⟩ : ∃ y_ : List ByteArray, y_ = (x15_3 ++ [t139]) := ⟨_, rfl⟩
                              replace H : (planisphereref02_Made.l3 k3 y133 x8_2 y140 (wrap64 (x16_3 + 2))) = some r := by first | (rw [hy140]; with_reducible exact H) | (have H2_ := (Option.bind_some _ _).symm.trans H; rw [hy140]; with_reducible exact H2_) | (have H2_ := (Option.bind_some _ _).symm.trans H; with_reducible exact H2_) | with_reducible exact H | (rw [hy140]; exact H) | exact H
                              have Ny140 := Aside0.mk hy140
                              clear hy140
                              have H' := Aside0.mk H
                              clear H
                              try go_wp2
                              have n0_ := Aside0.mk (Kd.R_drew HO_7.out)
                              have n1_ := Aside0.mk (Kd.R_drew HO_8.out)
                              have n2_ := Aside0.mk (Kd.R_drew HO_15.out)
                              have n3_ := Aside0.mk (below_drew1 HB.out)
                              clear HO_7
                              clear HO_8
                              clear HO_15
                              clear HB
                              have HO_7 := n0_
                              have HO_8 := n1_
                              have HO_15 := n2_
                              have HB := n3_
                              clear n0_ n1_ n2_ n3_
                              have p130 : 0 ≤ (x16_3 : Int) := of_decide_eq_true (by first | (with_reducible assumption) | assumption)
                              have q130 : x16_3 < (x8_2.length : Int) := of_decide_eq_true (by first | (with_reducible assumption) | assumption)
                              obtain ⟨ad130, e130, hx130_0⟩ := Kd.at_string (Kd.R_reads' HO_8.out).2.2 x16_3 p130 q130
                              cases e130
                              replace p130 := eq_true p130
                              replace q130 := eq_true q130
                              have p131 : 0 ≤ ((ji44) : Int) := of_decide_eq_true (by first | (with_reducible assumption) | assumption)
                              have q131 : (ji44) < (x8_2.length : Int) := of_decide_eq_true (by first | (with_reducible assumption) | assumption)
                              obtain ⟨ad131, e131, hx131_0⟩ := Kd.at_string (Kd.R_reads' HO_8.out).2.2 (ji44) p131 q131
                              obtain rfl : ad130 = ad131 := (by injection e131)
                              replace p131 := eq_true p131
                              replace q131 := eq_true q131
                              refine start_ (n := 14) (S := fun w' => w'.cell? (ad130.add (x16_3).toNat) = some (.string (rdOf ByteArray.empty x8_2 x16_3)) ∧ w'.cell? (ad130.add ((ji44)).toNat) = some (.string (rdOf ByteArray.empty x8_2 (ji44)))) (ds := [11, 12]) #[false, false, false, false, false, false, false, false, false, false, false, false, false, false] (by kernel_rfl) rfl rfl ⟨hx130_0, hx131_0⟩ (fun hHeld => ?_); refine with_tabW planisphereref02_Made.tab23 planisphereref02_Made.bits23 (fun HT_ HW_ => ?_)
                              generalize wr.drew = w51 at HO_7 HO_8 HO_15 HB hx130_0 hx131_0 hHeld ⊢
                              refine pure_ (i := 0) (N := some 72) (v := ?_) (a' := ?_) #[true, false, false, false, false, false, false, false, false, false, false, false, false, false] rfl rfl (any_of HT_.out (by kernel_rfl)) (fun _ _ _ h => h) (Or.inl ⟨by rfl, ?_⟩) ?_ ?_
                              rotate_left
                              · intro w'
                                first | (go_simp; with_reducible rfl) | (go_simp; rw [if_neg (by (have hone_ : ∀ b : UInt8, (ByteArray.mk #[b]).size = 1 := fun _ => rfl); (simp only [decide_eq_true_eq, ByteArray.size_extract, ByteArray.size_append, hone_] at *); omega)]; try with_reducible rfl)
                              rotate_left
                              · simp only [Act.put, List.setIfInBounds_toArray, List.set_cons_zero, List.set_cons_succ, i64_w, i32_w]
                                rfl
                              refine pure_ (i := 1) (N := some 73) (v := ?_) (a' := ?_) #[true, true, false, false, false, false, false, false, false, false, false, false, false, false] rfl rfl (any_of HT_.out (by kernel_rfl)) (fun _ _ _ h => h) (Or.inl ⟨by rfl, ?_⟩) ?_ ?_
                              rotate_left
                              · intro w'
                                first | (go_simp; with_reducible rfl) | (go_simp; rw [if_neg (by (have hone_ : ∀ b : UInt8, (ByteArray.mk #[b]).size = 1 := fun _ => rfl); (simp only [decide_eq_true_eq, ByteArray.size_extract, ByteArray.size_append, hone_] at *); omega)]; try with_reducible rfl)
                              rotate_left
                              · simp only [Act.put, List.setIfInBounds_toArray, List.set_cons_zero, List.set_cons_succ, i64_w, i32_w]
                                rfl
                              refine pure_ (i := 2) (N := some 74) (v := ?_) (a' := ?_) #[true, true, true, false, false, false, false, false, false, false, false, false, false, false] rfl rfl (any_of HT_.out (by kernel_rfl)) (fun _ _ _ h => h) (Or.inl ⟨by rfl, ?_⟩) ?_ ?_
                              rotate_left
                              · intro w'
                                first | (go_simp; with_reducible rfl) | (go_simp; rw [if_neg (by (have hone_ : ∀ b : UInt8, (ByteArray.mk #[b]).size = 1 := fun _ => rfl); (simp only [decide_eq_true_eq, ByteArray.size_extract, ByteArray.size_append, hone_] at *); omega)]; try with_reducible rfl)
                              rotate_left
                              · simp only [Act.put, List.setIfInBounds_toArray, List.set_cons_zero, List.set_cons_succ, i64_w, i32_w]
                                rfl
                              refine pure_ (i := 3) (N := some 75) (v := ?_) (a' := ?_) #[true, true, true, true, false, false, false, false, false, false, false, false, false, false] rfl rfl (any_of HT_.out (by kernel_rfl)) (fun _ _ _ h => h) (Or.inl ⟨by rfl, ?_⟩) ?_ ?_
                              rotate_left
                              · intro w'
                                first | (go_simp; with_reducible rfl) | (go_simp; rw [if_neg (by (have hone_ : ∀ b : UInt8, (ByteArray.mk #[b]).size = 1 := fun _ => rfl); (simp only [decide_eq_true_eq, ByteArray.size_extract, ByteArray.size_append, hone_] at *); omega)]; try with_reducible rfl)
                              rotate_left
                              · simp only [Act.put, List.setIfInBounds_toArray, List.set_cons_zero, List.set_cons_succ, i64_w, i32_w]
                                rfl
                              refine pure_ (i := 5) (N := some 77) (v := ?_) (a' := ?_) #[true, true, true, true, false, true, false, false, false, false, false, false, false, false] rfl rfl (any_of HT_.out (by kernel_rfl)) (fun _ _ _ h => h) (Or.inl ⟨by rfl, ?_⟩) ?_ ?_
                              rotate_left
                              · intro w'
                                first | (go_simp; with_reducible rfl) | (go_simp; rw [if_neg (by (have hone_ : ∀ b : UInt8, (ByteArray.mk #[b]).size = 1 := fun _ => rfl); (simp only [decide_eq_true_eq, ByteArray.size_extract, ByteArray.size_append, hone_] at *); omega)]; try with_reducible rfl)
                              rotate_left
                              · simp only [Act.put, List.setIfInBounds_toArray, List.set_cons_zero, List.set_cons_succ, i64_w, i32_w]
                                rfl
                              refine pure_ (i := 6) (N := some 78) (v := ?_) (a' := ?_) #[true, true, true, true, false, true, true, false, false, false, false, false, false, false] rfl rfl (any_of HT_.out (by kernel_rfl)) (fun _ _ _ h => h) (Or.inl ⟨by rfl, ?_⟩) ?_ ?_
                              rotate_left
                              · intro w'
                                first | (go_simp; with_reducible rfl) | (go_simp; rw [if_neg (by (have hone_ : ∀ b : UInt8, (ByteArray.mk #[b]).size = 1 := fun _ => rfl); (simp only [decide_eq_true_eq, ByteArray.size_extract, ByteArray.size_append, hone_] at *); omega)]; try with_reducible rfl)
                              rotate_left
                              · simp only [Act.put, List.setIfInBounds_toArray, List.set_cons_zero, List.set_cons_succ, i64_w, i32_w]
                                rfl
                              refine pure_ (i := 7) (N := some 79) (v := ?_) (a' := ?_) #[true, true, true, true, false, true, true, true, false, false, false, false, false, false] rfl rfl (any_of HT_.out (by kernel_rfl)) (fun _ _ _ h => h) (Or.inl ⟨by rfl, ?_⟩) ?_ ?_
                              rotate_left
                              · intro w'
                                first | (go_simp; with_reducible rfl) | (go_simp; rw [if_neg (by (have hone_ : ∀ b : UInt8, (ByteArray.mk #[b]).size = 1 := fun _ => rfl); (simp only [decide_eq_true_eq, ByteArray.size_extract, ByteArray.size_append, hone_] at *); omega)]; try with_reducible rfl)
                              rotate_left
                              · simp only [Act.put, List.setIfInBounds_toArray, List.set_cons_zero, List.set_cons_succ, i64_w, i32_w]
                                rfl
                              refine pure_ (i := 8) (N := some 80) (v := ?_) (a' := ?_) #[true, true, true, true, false, true, true, true, true, false, false, false, false, false] rfl rfl (any_of HT_.out (by kernel_rfl)) (fun _ _ _ h => h) (Or.inl ⟨by rfl, ?_⟩) ?_ ?_
                              rotate_left
                              · intro w'
                                first | (go_simp; with_reducible rfl) | (go_simp; rw [if_neg (by (have hone_ : ∀ b : UInt8, (ByteArray.mk #[b]).size = 1 := fun _ => rfl); (simp only [decide_eq_true_eq, ByteArray.size_extract, ByteArray.size_append, hone_] at *); omega)]; try with_reducible rfl)
                              rotate_left
                              · simp only [Act.put, List.setIfInBounds_toArray, List.set_cons_zero, List.set_cons_succ, i64_w, i32_w]
                                rfl
                              refine take_ (i := 4) (N := some 76) (v := ?_) (a' := ?_) #[true, true, true, true, true, true, true, true, true, false, false, false, false, false] rfl rfl (take_ofW HT_.out HW_.out (by kernel_rfl)) (fun _ _ _ h => h) (Or.inl ⟨by rfl, ?_⟩) hHeld ?_ ?_
                              rotate_left
                              · rintro w' ⟨s0, s1⟩
                                go_simp
                                with_reducible rfl
                              rotate_left
                              · simp only [Act.put, List.setIfInBounds_toArray, List.set_cons_zero, List.set_cons_succ, i64_w, i32_w]
                                rfl
                              refine take_ (i := 9) (N := some 81) (v := ?_) (a' := ?_) #[true, true, true, true, true, true, true, true, true, true, false, false, false, false] rfl rfl (take_ofW HT_.out HW_.out (by kernel_rfl)) (fun _ _ _ h => h) (Or.inl ⟨by rfl, ?_⟩) hHeld ?_ ?_
                              rotate_left
                              · rintro w' ⟨s0, s1⟩
                                go_simp
                                with_reducible rfl
                              rotate_left
                              · simp only [Act.put, List.setIfInBounds_toArray, List.set_cons_zero, List.set_cons_succ, i64_w, i32_w]
                                rfl
                              refine one_ (i := 10) (N := some 82) #[true, true, true, true, true, true, true, true, true, true, true, false, false, false] rfl rfl (one_of HT_.out (by kernel_rfl)) (by decide) (fun K hK => ?_)
                              refine goes_ Tryd.func67 (by kernel_rfl) rfl #[.string (rdOf ByteArray.empty x8_2 x16_3), .string (rdOf ByteArray.empty x8_2 (ji44))] (by rfl) rfl rfl (by (try simp only [List.map_toArray, List.map_cons, List.map_nil]); first | done | (simp only [hji44]; rfl) | rfl | (simp only [List.length_drop, List.length_take]; rfl)) ?_
                              with_reducible refine (planisphereref02_node.calls (rdOf ByteArray.empty x8_2 x16_3) (rdOf ByteArray.empty x8_2 (ji44)) t132 _ A46.out).mono ?_
                              rintro e w52 ⟨rfl, hb⟩
                              have HS0_ := (hb.cell (World.block_lt_of_cell? _ _ (hHeld.1))).trans (hHeld.1)
                              have HS1_ := (hb.cell (World.block_lt_of_cell? _ _ (hHeld.2))).trans (hHeld.2)
                              refine ⟨_, rfl, ?_⟩
                              have n0_ := Aside0.mk (Kd.R_below (by (with_reducible repeat (first | apply Kd.R_alloc | apply Kd.R_drewN | apply Kd.R_drew)); exact HO_7.out) hb)
                              have n1_ := Aside0.mk (Kd.R_below (by (with_reducible repeat (first | apply Kd.R_alloc | apply Kd.R_drewN | apply Kd.R_drew)); exact HO_8.out) hb)
                              have n2_ := Aside0.mk (Kd.R_below (by (with_reducible repeat (first | apply Kd.R_alloc | apply Kd.R_drewN | apply Kd.R_drew)); exact HO_15.out) hb)
                              have n3_ := Aside0.mk (below_step (by repeat (first | (with_reducible first | exact HB.out | apply below_alloc | apply pw_below_drewN | apply below_drew1) | exact HB.out)) hb)
                              clear HO_7
                              clear HO_8
                              clear HO_15
                              clear HB
                              have HO_7 := n0_
                              have HO_8 := n1_
                              have HO_15 := n2_
                              have HB := n3_
                              clear n0_ n1_ n2_ n3_
                              (try clear hb)
                              (try clear hb2)
                              (try clear hk)
                              (try clear hi)
                              refine hK.out _ _ ⟨HS0_, HS1_⟩ (fun hHeld => ?_)
                              clear hK K
                              refine norm_ (a' := ?_) ?_ ?_
                              rotate_left
                              · show Act.put _ (some 82) _ = _
                                simp only [Act.put, List.setIfInBounds_toArray, List.set_cons_zero, List.set_cons_succ, i64_w, i32_w]
                                rfl
                              refine last_ (i := 11) (N := some 83) #[true, true, true, true, true, true, true, true, true, true, true, true, false, false] rfl rfl (one_of HT_.out (by kernel_rfl)) (by decide) (fun K hK => ?_)
                              refine value_ (w1 := ?_) (v := ?_) (by rfl) rfl ?_ ?_
                              rotate_left 2
                              · go_simp
                                constructor
                                · rfl
                                · rfl
                              refine hK.out _ _ ?_
                              clear hK K
                              refine norm_ (a' := ?_) ?_ ?_
                              rotate_left
                              · show Act.put _ (some 83) _ = _
                                simp only [Act.put, List.setIfInBounds_toArray, List.set_cons_zero, List.set_cons_succ, i64_w, i32_w]
                                rfl
                              refine last_ (i := 12) (N := some 84) #[true, true, true, true, true, true, true, true, true, true, true, true, true, false] rfl rfl (one_of HT_.out (by kernel_rfl)) (by decide) (fun K hK => ?_)
                              refine Kd.R_append_step Kd.string (w0 := w) w.heap.size (by rfl) (.tmp 72) (.tmp 83) 22 9 (.string ⟨#[]⟩) 16 rfl Tryd.underlying22 info9 rfl (by decide) (by omega) u7 x7_3 t132 [.string t132] (fun k_ => some k_ ≠ (.slice (some ad130) x8_2.length co40 : Value).ownBlock ∧ some k_ ≠ (u15 : Value).ownBlock) (fun _ => False) rfl rfl ?aP (fun _ hk => hk.elim) ?aF ?aO ?aB ?aS ?aL ?_
                              (case aP => exact rfl)
                              (case aB => exact (by repeat (first | (with_reducible first | exact HB.out | apply below_alloc | apply pw_below_drewN | apply below_drew1) | exact HB.out)))
                              (case aF => exact (fun k_ hk => ⟨Kd.fresh' (Kd.R_lt (by (with_reducible repeat (first | apply Kd.R_alloc | apply Kd.R_drewN | apply Kd.R_drew)); exact HO_8.out)) k_ hk, Kd.fresh' (Kd.R_lt (by (with_reducible repeat (first | apply Kd.R_alloc | apply Kd.R_drewN | apply Kd.R_drew)); exact HO_15.out)) k_ hk⟩))
                              (case aO => exact (by (with_reducible repeat (first | apply Kd.R_alloc | apply Kd.R_drewN | apply Kd.R_drew)); exact HO_7.out))
                              (case aS => exact (below_size (by repeat (first | (with_reducible first | exact HB.out | apply below_alloc | apply pw_below_drewN | apply below_drew1) | exact HB.out))))
                              (case aL => have := LMc47.out; omega)
                              intro v134 w53 ho hb hg hat
                              rw [← Ny133.out] at ho
                              have n0_ := Aside0.mk (Kd.R_after (ok := (fun k_ => some k_ ≠ (u15 : Value).ownBlock)) (by (with_reducible repeat (first | apply Kd.R_alloc | apply Kd.R_drewN | apply Kd.R_drew)); exact Kd.R_mono HO_8.out (fun _ hk => ⟨hk.2, hk.1⟩)) hg hat)
                              have n1_ := Aside0.mk (Kd.R_after (ok := (fun k_ => some k_ ≠ (.slice (some ad130) x8_2.length co40 : Value).ownBlock)) (by (with_reducible repeat (first | apply Kd.R_alloc | apply Kd.R_drewN | apply Kd.R_drew)); exact Kd.R_mono HO_15.out (fun _ hk => ⟨hk.2, hk.1⟩)) hg hat)
                              have n2_ := Aside0.mk (hb)
                              have n3_ := Aside0.mk (ho)
                              clear HO_8
                              clear HO_15
                              clear HB
                              clear HO_7
                              have HO_8 := n0_
                              have HO_15 := n1_
                              have HB := n2_
                              have HO135 := n3_
                              clear n0_ n1_ n2_ n3_
                              clear ho hb hg hat
                              refine hK.out _ _ ?_
                              clear hK K
                              refine norm_ (a' := ?_) ?_ ?_
                              rotate_left
                              · show Act.put _ (some 84) _ = _
                                simp only [Act.put, List.setIfInBounds_toArray, List.set_cons_zero, List.set_cons_succ, i64_w, i32_w]
                                rfl
                              refine pure_ (i := 13) (N := some 7) (v := ?_) (a' := ?_) #[true, true, true, true, true, true, true, true, true, true, true, true, true, true] rfl rfl (any_of HT_.out (by kernel_rfl)) (fun _ _ _ h => h) (Or.inl ⟨by rfl, ?_⟩) ?_ ?_
                              rotate_left
                              · intro w'
                                first | (go_simp; with_reducible rfl) | (go_simp; rw [if_neg (by (have hone_ : ∀ b : UInt8, (ByteArray.mk #[b]).size = 1 := fun _ => rfl); (simp only [decide_eq_true_eq, ByteArray.size_extract, ByteArray.size_append, hone_] at *); omega)]; try with_reducible rfl)
                              rotate_left
                              · simp only [Act.put, List.setIfInBounds_toArray, List.set_cons_zero, List.set_cons_succ, i64_w, i32_w]
                                rfl
                              refine done_ (done_of HT_.out (by kernel_rfl)) ?_
                              try go_wp2
                              have n0_ := Aside0.mk (Kd.R_drew HO_8.out)
                              have n1_ := Aside0.mk (Kd.R_drew HO_15.out)
                              have n2_ := Aside0.mk (Kd.R_drew HO135.out)
                              have n3_ := Aside0.mk (below_drew1 HB.out)
                              clear HO_8
                              clear HO_15
                              clear HO135
                              clear HB
                              have HO_8 := n0_
                              have HO_15 := n1_
                              have HO135 := n2_
                              have HB := n3_
                              clear n0_ n1_ n2_ n3_
                              have p136 : 0 ≤ (x16_3 : Int) := of_decide_eq_true (by first | (with_reducible assumption) | assumption)
                              have q136 : x16_3 < (x8_2.length : Int) := of_decide_eq_true (by first | (with_reducible assumption) | assumption)
                              obtain ⟨ad136, e136, hx136_0⟩ := Kd.at_string (Kd.R_reads' HO_8.out).2.2 x16_3 p136 q136
                              obtain rfl : ad130 = ad136 := (by injection e136)
                              replace p136 := eq_true p136
                              replace q136 := eq_true q136
                              have p137 : 0 ≤ ((ji44) : Int) := of_decide_eq_true (by first | (with_reducible assumption) | assumption)
                              have q137 : (ji44) < (x8_2.length : Int) := of_decide_eq_true (by first | (with_reducible assumption) | assumption)
                              obtain ⟨ad137, e137, hx137_0⟩ := Kd.at_string (Kd.R_reads' HO_8.out).2.2 (ji44) p137 q137
                              obtain rfl : ad130 = ad137 := (by injection e137)
                              replace p137 := eq_true p137
                              replace q137 := eq_true q137
                              refine start_ (n := 15) (S := fun w' => w'.cell? (ad130.add (x16_3).toNat) = some (.string (rdOf ByteArray.empty x8_2 x16_3)) ∧ w'.cell? (ad130.add ((ji44)).toNat) = some (.string (rdOf ByteArray.empty x8_2 (ji44)))) (ds := [12, 13]) #[false, false, false, false, false, false, false, false, false, false, false, false, false, false, false] (by kernel_rfl) rfl rfl ⟨hx136_0, hx137_0⟩ (fun hHeld => ?_); refine with_tabW planisphereref02_Made.tab24 planisphereref02_Made.bits24 (fun HT_ HW_ => ?_)
                              generalize w53.drew = w54 at HO_8 HO_15 HO135 HB hx136_0 hx137_0 hHeld ⊢
                              refine pure_ (i := 0) (N := some 85) (v := ?_) (a' := ?_) #[true, false, false, false, false, false, false, false, false, false, false, false, false, false, false] rfl rfl (any_of HT_.out (by kernel_rfl)) (fun _ _ _ h => h) (Or.inl ⟨by rfl, ?_⟩) ?_ ?_
                              rotate_left
                              · intro w'
                                first | (go_simp; with_reducible rfl) | (go_simp; rw [if_neg (by (have hone_ : ∀ b : UInt8, (ByteArray.mk #[b]).size = 1 := fun _ => rfl); (simp only [decide_eq_true_eq, ByteArray.size_extract, ByteArray.size_append, hone_] at *); omega)]; try with_reducible rfl)
                              rotate_left
                              · simp only [Act.put, List.setIfInBounds_toArray, List.set_cons_zero, List.set_cons_succ, i64_w, i32_w]
                                rfl
                              refine pure_ (i := 1) (N := some 86) (v := ?_) (a' := ?_) #[true, true, false, false, false, false, false, false, false, false, false, false, false, false, false] rfl rfl (any_of HT_.out (by kernel_rfl)) (fun _ _ _ h => h) (Or.inl ⟨by rfl, ?_⟩) ?_ ?_
                              rotate_left
                              · intro w'
                                first | (go_simp; with_reducible rfl) | (go_simp; rw [if_neg (by (have hone_ : ∀ b : UInt8, (ByteArray.mk #[b]).size = 1 := fun _ => rfl); (simp only [decide_eq_true_eq, ByteArray.size_extract, ByteArray.size_append, hone_] at *); omega)]; try with_reducible rfl)
                              rotate_left
                              · simp only [Act.put, List.setIfInBounds_toArray, List.set_cons_zero, List.set_cons_succ, i64_w, i32_w]
                                rfl
                              refine pure_ (i := 2) (N := some 87) (v := ?_) (a' := ?_) #[true, true, true, false, false, false, false, false, false, false, false, false, false, false, false] rfl rfl (any_of HT_.out (by kernel_rfl)) (fun _ _ _ h => h) (Or.inl ⟨by rfl, ?_⟩) ?_ ?_
                              rotate_left
                              · intro w'
                                first | (go_simp; with_reducible rfl) | (go_simp; rw [if_neg (by (have hone_ : ∀ b : UInt8, (ByteArray.mk #[b]).size = 1 := fun _ => rfl); (simp only [decide_eq_true_eq, ByteArray.size_extract, ByteArray.size_append, hone_] at *); omega)]; try with_reducible rfl)
                              rotate_left
                              · simp only [Act.put, List.setIfInBounds_toArray, List.set_cons_zero, List.set_cons_succ, i64_w, i32_w]
                                rfl
                              refine pure_ (i := 3) (N := some 88) (v := ?_) (a' := ?_) #[true, true, true, true, false, false, false, false, false, false, false, false, false, false, false] rfl rfl (any_of HT_.out (by kernel_rfl)) (fun _ _ _ h => h) (Or.inl ⟨by rfl, ?_⟩) ?_ ?_
                              rotate_left
                              · intro w'
                                first | (go_simp; with_reducible rfl) | (go_simp; rw [if_neg (by (have hone_ : ∀ b : UInt8, (ByteArray.mk #[b]).size = 1 := fun _ => rfl); (simp only [decide_eq_true_eq, ByteArray.size_extract, ByteArray.size_append, hone_] at *); omega)]; try with_reducible rfl)
                              rotate_left
                              · simp only [Act.put, List.setIfInBounds_toArray, List.set_cons_zero, List.set_cons_succ, i64_w, i32_w]
                                rfl
                              refine pure_ (i := 5) (N := some 90) (v := ?_) (a' := ?_) #[true, true, true, true, false, true, false, false, false, false, false, false, false, false, false] rfl rfl (any_of HT_.out (by kernel_rfl)) (fun _ _ _ h => h) (Or.inl ⟨by rfl, ?_⟩) ?_ ?_
                              rotate_left
                              · intro w'
                                first | (go_simp; with_reducible rfl) | (go_simp; rw [if_neg (by (have hone_ : ∀ b : UInt8, (ByteArray.mk #[b]).size = 1 := fun _ => rfl); (simp only [decide_eq_true_eq, ByteArray.size_extract, ByteArray.size_append, hone_] at *); omega)]; try with_reducible rfl)
                              rotate_left
                              · simp only [Act.put, List.setIfInBounds_toArray, List.set_cons_zero, List.set_cons_succ, i64_w, i32_w]
                                rfl
                              refine pure_ (i := 6) (N := some 91) (v := ?_) (a' := ?_) #[true, true, true, true, false, true, true, false, false, false, false, false, false, false, false] rfl rfl (any_of HT_.out (by kernel_rfl)) (fun _ _ _ h => h) (Or.inl ⟨by rfl, ?_⟩) ?_ ?_
                              rotate_left
                              · intro w'
                                first | (go_simp; with_reducible rfl) | (go_simp; rw [if_neg (by (have hone_ : ∀ b : UInt8, (ByteArray.mk #[b]).size = 1 := fun _ => rfl); (simp only [decide_eq_true_eq, ByteArray.size_extract, ByteArray.size_append, hone_] at *); omega)]; try with_reducible rfl)
                              rotate_left
                              · simp only [Act.put, List.setIfInBounds_toArray, List.set_cons_zero, List.set_cons_succ, i64_w, i32_w]
                                rfl
                              refine pure_ (i := 7) (N := some 92) (v := ?_) (a' := ?_) #[true, true, true, true, false, true, true, true, false, false, false, false, false, false, false] rfl rfl (any_of HT_.out (by kernel_rfl)) (fun _ _ _ h => h) (Or.inl ⟨by rfl, ?_⟩) ?_ ?_
                              rotate_left
                              · intro w'
                                first | (go_simp; with_reducible rfl) | (go_simp; rw [if_neg (by (have hone_ : ∀ b : UInt8, (ByteArray.mk #[b]).size = 1 := fun _ => rfl); (simp only [decide_eq_true_eq, ByteArray.size_extract, ByteArray.size_append, hone_] at *); omega)]; try with_reducible rfl)
                              rotate_left
                              · simp only [Act.put, List.setIfInBounds_toArray, List.set_cons_zero, List.set_cons_succ, i64_w, i32_w]
                                rfl
                              refine pure_ (i := 8) (N := some 93) (v := ?_) (a' := ?_) #[true, true, true, true, false, true, true, true, true, false, false, false, false, false, false] rfl rfl (any_of HT_.out (by kernel_rfl)) (fun _ _ _ h => h) (Or.inl ⟨by rfl, ?_⟩) ?_ ?_
                              rotate_left
                              · intro w'
                                first | (go_simp; with_reducible rfl) | (go_simp; rw [if_neg (by (have hone_ : ∀ b : UInt8, (ByteArray.mk #[b]).size = 1 := fun _ => rfl); (simp only [decide_eq_true_eq, ByteArray.size_extract, ByteArray.size_append, hone_] at *); omega)]; try with_reducible rfl)
                              rotate_left
                              · simp only [Act.put, List.setIfInBounds_toArray, List.set_cons_zero, List.set_cons_succ, i64_w, i32_w]
                                rfl
                              refine take_ (i := 4) (N := some 89) (v := ?_) (a' := ?_) #[true, true, true, true, true, true, true, true, true, false, false, false, false, false, false] rfl rfl (take_ofW HT_.out HW_.out (by kernel_rfl)) (fun _ _ _ h => h) (Or.inl ⟨by rfl, ?_⟩) hHeld ?_ ?_
                              rotate_left
                              · rintro w' ⟨s0, s1⟩
                                go_simp
                                with_reducible rfl
                              rotate_left
                              · simp only [Act.put, List.setIfInBounds_toArray, List.set_cons_zero, List.set_cons_succ, i64_w, i32_w]
                                rfl
                              refine take_ (i := 9) (N := some 94) (v := ?_) (a' := ?_) #[true, true, true, true, true, true, true, true, true, true, false, false, false, false, false] rfl rfl (take_ofW HT_.out HW_.out (by kernel_rfl)) (fun _ _ _ h => h) (Or.inl ⟨by rfl, ?_⟩) hHeld ?_ ?_
                              rotate_left
                              · rintro w' ⟨s0, s1⟩
                                go_simp
                                with_reducible rfl
                              rotate_left
                              · simp only [Act.put, List.setIfInBounds_toArray, List.set_cons_zero, List.set_cons_succ, i64_w, i32_w]
                                rfl
                              refine one_ (i := 10) (N := some 95) #[true, true, true, true, true, true, true, true, true, true, true, false, false, false, false] rfl rfl (one_of HT_.out (by kernel_rfl)) (by decide) (fun K hK => ?_)
                              refine goes_ Tryd.func67 (by kernel_rfl) rfl #[.string (rdOf ByteArray.empty x8_2 x16_3), .string (rdOf ByteArray.empty x8_2 (ji44))] (by rfl) rfl rfl (by (try simp only [List.map_toArray, List.map_cons, List.map_nil]); first | done | (simp only [hji44]; rfl) | rfl | (simp only [List.length_drop, List.length_take]; rfl)) ?_
                              with_reducible refine (planisphereref02_node.calls (rdOf ByteArray.empty x8_2 x16_3) (rdOf ByteArray.empty x8_2 (ji44)) t138 _ A48.out).mono ?_
                              rintro e w55 ⟨rfl, hb⟩
                              have HS0_ := (hb.cell (World.block_lt_of_cell? _ _ (hHeld.1))).trans (hHeld.1)
                              have HS1_ := (hb.cell (World.block_lt_of_cell? _ _ (hHeld.2))).trans (hHeld.2)
                              refine ⟨_, rfl, ?_⟩
                              have n0_ := Aside0.mk (Kd.R_below (by (with_reducible repeat (first | apply Kd.R_alloc | apply Kd.R_drewN | apply Kd.R_drew)); exact HO_8.out) hb)
                              have n1_ := Aside0.mk (Kd.R_below (by (with_reducible repeat (first | apply Kd.R_alloc | apply Kd.R_drewN | apply Kd.R_drew)); exact HO_15.out) hb)
                              have n2_ := Aside0.mk (Kd.R_below (by (with_reducible repeat (first | apply Kd.R_alloc | apply Kd.R_drewN | apply Kd.R_drew)); exact HO135.out) hb)
                              have n3_ := Aside0.mk (below_step (by repeat (first | (with_reducible first | exact HB.out | apply below_alloc | apply pw_below_drewN | apply below_drew1) | exact HB.out)) hb)
                              clear HO_8
                              clear HO_15
                              clear HO135
                              clear HB
                              have HO_8 := n0_
                              have HO_15 := n1_
                              have HO135 := n2_
                              have HB := n3_
                              clear n0_ n1_ n2_ n3_
                              (try clear hb)
                              (try clear hb2)
                              (try clear hk)
                              (try clear hi)
                              refine hK.out _ _ ⟨HS0_, HS1_⟩ (fun hHeld => ?_)
                              clear hK K
                              refine norm_ (a' := ?_) ?_ ?_
                              rotate_left
                              · show Act.put _ (some 95) _ = _
                                simp only [Act.put, List.setIfInBounds_toArray, List.set_cons_zero, List.set_cons_succ, i64_w, i32_w]
                                rfl
                              refine one_ (i := 11) (N := some 96) #[true, true, true, true, true, true, true, true, true, true, true, true, false, false, false] rfl rfl (one_of HT_.out (by kernel_rfl)) (by decide) (fun K hK => ?_)
                              refine goes_ Tryd.func18 (by kernel_rfl) rfl #[.string t138] (by rfl) rfl rfl (by (try simp only [List.map_toArray, List.map_cons, List.map_nil]); first | done | rfl | (simp only [List.length_drop, List.length_take]; rfl)) ?_
                              with_reducible refine (planisphereref01_Sum.callsB t138 t139 _ A49.out).mono ?_
                              rintro e w56 ⟨rfl, hb⟩
                              have HS0_ := (hb.cell (World.block_lt_of_cell? _ _ (hHeld.1))).trans (hHeld.1)
                              have HS1_ := (hb.cell (World.block_lt_of_cell? _ _ (hHeld.2))).trans (hHeld.2)
                              refine ⟨_, rfl, ?_⟩
                              have n0_ := Aside0.mk (Kd.R_below (by (with_reducible repeat (first | apply Kd.R_alloc | apply Kd.R_drewN | apply Kd.R_drew)); exact HO_8.out) hb)
                              have n1_ := Aside0.mk (Kd.R_below (by (with_reducible repeat (first | apply Kd.R_alloc | apply Kd.R_drewN | apply Kd.R_drew)); exact HO_15.out) hb)
                              have n2_ := Aside0.mk (Kd.R_below (by (with_reducible repeat (first | apply Kd.R_alloc | apply Kd.R_drewN | apply Kd.R_drew)); exact HO135.out) hb)
                              have n3_ := Aside0.mk (below_step (by repeat (first | (with_reducible first | exact HB.out | apply below_alloc | apply pw_below_drewN | apply below_drew1) | exact HB.out)) hb)
                              clear HO_8
                              clear HO_15
                              clear HO135
                              clear HB
                              have HO_8 := n0_
                              have HO_15 := n1_
                              have HO135 := n2_
                              have HB := n3_
                              clear n0_ n1_ n2_ n3_
                              (try clear hb)
                              (try clear hb2)
                              (try clear hk)
                              (try clear hi)
                              refine hK.out _ _ ⟨HS0_, HS1_⟩ (fun hHeld => ?_)
                              clear hK K
                              refine norm_ (a' := ?_) ?_ ?_
                              rotate_left
                              · show Act.put _ (some 96) _ = _
                                simp only [Act.put, List.setIfInBounds_toArray, List.set_cons_zero, List.set_cons_succ, i64_w, i32_w]
                                rfl
                              refine last_ (i := 12) (N := some 97) #[true, true, true, true, true, true, true, true, true, true, true, true, true, false, false] rfl rfl (one_of HT_.out (by kernel_rfl)) (by decide) (fun K hK => ?_)
                              refine value_ (w1 := ?_) (v := ?_) (by rfl) rfl ?_ ?_
                              rotate_left 2
                              · go_simp
                                constructor
                                · rfl
                                · rfl
                              refine hK.out _ _ ?_
                              clear hK K
                              refine norm_ (a' := ?_) ?_ ?_
                              rotate_left
                              · show Act.put _ (some 97) _ = _
                                simp only [Act.put, List.setIfInBounds_toArray, List.set_cons_zero, List.set_cons_succ, i64_w, i32_w]
                                rfl
                              refine last_ (i := 13) (N := some 98) #[true, true, true, true, true, true, true, true, true, true, true, true, true, true, false] rfl rfl (one_of HT_.out (by kernel_rfl)) (by decide) (fun K hK => ?_)
                              refine Kd.R_append_step Kd.string (w0 := w) w.heap.size (by rfl) (.tmp 85) (.tmp 97) 22 9 (.string ⟨#[]⟩) 16 rfl Tryd.underlying22 info9 rfl (by decide) (by omega) u15 x15_3 t139 [.string t139] (fun k_ => some k_ ≠ (.slice (some ad130) x8_2.length co40 : Value).ownBlock ∧ some k_ ≠ (v134 : Value).ownBlock) (fun _ => False) rfl rfl ?aP (fun _ hk => hk.elim) ?aF ?aO ?aB ?aS ?aL ?_
                              (case aP => exact rfl)
                              (case aB => exact (by repeat (first | (with_reducible first | exact HB.out | apply below_alloc | apply pw_below_drewN | apply below_drew1) | exact HB.out)))
                              (case aF => exact (fun k_ hk => ⟨Kd.fresh' (Kd.R_lt (by (with_reducible repeat (first | apply Kd.R_alloc | apply Kd.R_drewN | apply Kd.R_drew)); exact HO_8.out)) k_ hk, Kd.fresh' (Kd.R_lt (by (with_reducible repeat (first | apply Kd.R_alloc | apply Kd.R_drewN | apply Kd.R_drew)); exact HO135.out)) k_ hk⟩))
                              (case aO => exact (by (with_reducible repeat (first | apply Kd.R_alloc | apply Kd.R_drewN | apply Kd.R_drew)); exact HO_15.out))
                              (case aS => exact (below_size (by repeat (first | (with_reducible first | exact HB.out | apply below_alloc | apply pw_below_drewN | apply below_drew1) | exact HB.out))))
                              (case aL => have := LMc50.out; omega)
                              intro v141 w57 ho hb hg hat
                              rw [← Ny140.out] at ho
                              have n0_ := Aside0.mk (Kd.R_after (ok := (fun k_ => some k_ ≠ (v134 : Value).ownBlock)) (by (with_reducible repeat (first | apply Kd.R_alloc | apply Kd.R_drewN | apply Kd.R_drew)); exact Kd.R_mono HO_8.out (fun _ hk => ⟨hk.2, hk.1⟩)) hg hat)
                              have n1_ := Aside0.mk (Kd.R_after (ok := (fun k_ => some k_ ≠ (.slice (some ad130) x8_2.length co40 : Value).ownBlock)) (by (with_reducible repeat (first | apply Kd.R_alloc | apply Kd.R_drewN | apply Kd.R_drew)); exact HO135.out) hg hat)
                              have n2_ := Aside0.mk (hb)
                              have n3_ := Aside0.mk (ho)
                              clear HO_8
                              clear HO135
                              clear HB
                              clear HO_15
                              have HO_8 := n0_
                              have HO135 := n1_
                              have HB := n2_
                              have HO142 := n3_
                              clear n0_ n1_ n2_ n3_
                              clear ho hb hg hat
                              refine hK.out _ _ ?_
                              clear hK K
                              refine norm_ (a' := ?_) ?_ ?_
                              rotate_left
                              · show Act.put _ (some 98) _ = _
                                simp only [Act.put, List.setIfInBounds_toArray, List.set_cons_zero, List.set_cons_succ, i64_w, i32_w]
                                rfl
                              refine pure_ (i := 14) (N := some 15) (v := ?_) (a' := ?_) #[true, true, true, true, true, true, true, true, true, true, true, true, true, true, true] rfl rfl (any_of HT_.out (by kernel_rfl)) (fun _ _ _ h => h) (Or.inl ⟨by rfl, ?_⟩) ?_ ?_
                              rotate_left
                              · intro w'
                                first | (go_simp; with_reducible rfl) | (go_simp; rw [if_neg (by (have hone_ : ∀ b : UInt8, (ByteArray.mk #[b]).size = 1 := fun _ => rfl); (simp only [decide_eq_true_eq, ByteArray.size_extract, ByteArray.size_append, hone_] at *); omega)]; try with_reducible rfl)
                              rotate_left
                              · simp only [Act.put, List.setIfInBounds_toArray, List.set_cons_zero, List.set_cons_succ, i64_w, i32_w]
                                rfl
                              refine done_ (done_of HT_.out (by kernel_rfl)) ?_
                              try go_wp2
                              go_roundg k3
                              case measure => have := HK1.out; have := HK2.out; have := HK3.out; omega
                              case rel => exact ⟨(y133), (y140), (wrap64 (x16_3 + 2)), (by first | rfl | (simp; done) | (simp [*]; done)), H', ⟨by have := HK1.out; have := HK2.out; have := HK3.out; omega⟩, ⟨by (with_reducible repeat (first | apply Kd.R_alloc | apply Kd.R_drewN | apply Kd.R_drew)); exact HO135.out⟩, ⟨by (with_reducible repeat (first | apply Kd.R_alloc | apply Kd.R_drewN | apply Kd.R_drew)); exact HO_8.out⟩, ⟨by (with_reducible repeat (first | apply Kd.R_alloc | apply Kd.R_drewN | apply Kd.R_drew)); exact Kd.R_mono HO142.out (fun _ hk => ⟨hk.2, hk.1⟩)⟩, ⟨by repeat (first | (with_reducible first | exact HB.out | apply below_alloc | apply pw_below_drewN | apply below_drew1) | exact HB.out)⟩⟩
                            · rw [if_neg c50] at H
                              exact absurd H (by simp)
                          · rw [if_neg c47] at H
                            exact absurd H (by simp)
                        · rw [if_neg c45] at H
                          exact absurd H (by simp)
                      · rw [if_neg c43] at H
                        exact absurd H (by simp)
                    · rw [if_neg c42] at H
                      exact absurd H (by simp)
                  · rw [if_neg c41] at H
                    have c41b0 : decide ((wrap64 (x16_3 + 1)) < (x8_2.length : Int)) = false := decide_eq_false c41
                    clear c41
                    have H' := Aside0.mk H
                    clear H
                    go_wp2
                    go_roundg k3
                    case measure => have := HK1.out; have := HK2.out; have := HK3.out; omega
                    case rel => exact ⟨(x7_3), (x15_3), H', ⟨by have := HK1.out; have := HK2.out; have := HK3.out; omega⟩, ⟨by (with_reducible repeat (first | apply Kd.R_alloc | apply Kd.R_drewN | apply Kd.R_drew)); exact Kd.R_mono HO_7.out (fun _ hk => hk.2)⟩, ⟨by (with_reducible repeat (first | apply Kd.R_alloc | apply Kd.R_drewN | apply Kd.R_drew)); exact Kd.R_mono HO_15.out (fun _ hk => hk.1)⟩, ⟨by repeat (first | (with_reducible first | exact HB.out | apply below_alloc | apply pw_below_drewN | apply below_drew1) | exact HB.out)⟩⟩
            · rw [if_neg c39] at H
              have c39b0 : decide (1 < (x8_2.length : Int)) = false := decide_eq_false c39
              have c39b1 : decide (1 < x8_2.length) = false := decide_eq_false (by omega)
              clear c39
              obtain rfl := Option.some.inj H
              obtain ⟨Ao58, co58, eo58⟩ := Kd.R_slice HO_8.out
              subst eo58
              go_wp2
              go_ret
              exact ⟨_, by first | rfl | (simp [errW_none, errW_some] <;> rfl) | (simp [*, errW_none, errW_some] <;> rfl), by (with_reducible repeat (first | apply Kd.R_alloc | apply Kd.R_drewN | apply Kd.R_drew)); exact Kd.R_mono HO_7.out (fun _ hk => trivial), by repeat (first | (with_reducible first | exact HB.out | apply below_alloc | apply pw_below_drewN | apply below_drew1) | exact HB.out)⟩
end Go.Proofs.YteleheamnighkaaDoor.PCf
end
section
namespace Go.Proofs.YteleheamnighkaaDoor.PCf
open Go.RowKit Go.Proofs.YteleheamnighkaaDoorW.PrintWords Go.Proofs.YteleheamnighkaaDoorW.PrintLast Go.Proofs.YteleheamnighkaaDoorW.PrintMore
attribute [local go_sem] max2_int min2_int max_two min_two max_three min_three max_four min_four   -- for this text's walks alone
set_option linter.unusedVariables false
set_option linter.unusedSimpArgs false
mutual
def planisphereref02_Checked.j1 : Nat → List ByteArray → List ByteArray → Int → List ByteArray → List ByteArray → Option (List ByteArray)
  | 0, _, _, _, _, _ => none
  | k + 1, x6, x7, x144000, x144001, x144002 => (planisphereref01_Joined.f x7).bind fun t160 => (if x6.length < 8796093022208 then ((planisphereref01_Sum.f t160).bind fun t164 => (planisphereref02_Checked.l1 k (x6 ++ [t160]) t164 x144000 0 x144000 x144001 x144002)) else (none))
def planisphereref02_Checked.l1 : Nat → List ByteArray → ByteArray → Int → Int → Int → List ByteArray → List ByteArray → Option (List ByteArray)
  | 0, _, _, _, _, _, _, _ => none
  | k + 1, x6, x11, x12, x13, x144000, x144001, x144002 => if x13 < (x144002.length : Int) then (if 0 ≤ x13 then ((planisphereref02_node.f x11 (rdOf ByteArray.empty x144002 x13)).bind fun t166 => (if (Int.tmod x12 2) = 1 then ((planisphereref02_node.f (rdOf ByteArray.empty x144002 x13) x11).bind fun t168 => (if x6.length < 8796093022208 then ((planisphereref01_Sum.f t168).bind fun t172 => (planisphereref02_Checked.l1 k (x6 ++ [t168]) t172 (wrap64 (Int.tdiv x12 2)) (wrap64 (x13 + 1)) x144000 x144001 x144002)) else (none))) else (if x6.length < 8796093022208 then ((planisphereref01_Sum.f t166).bind fun t176 => (planisphereref02_Checked.l1 k (x6 ++ [t166]) t176 (wrap64 (Int.tdiv x12 2)) (wrap64 (x13 + 1)) x144000 x144001 x144002)) else (none)))) else (none)) else (some x6)
def planisphereref02_Checked.l0 : Nat → List Int → List ByteArray → List ByteArray → Int → Int → List ByteArray → List ByteArray → Option (List ByteArray)
  | 0, _, _, _, _, _, _, _ => none
  | k + 1, x5, x6, x7, x8, x144000, x144001, x144002 => if x8 < 18 then (if x8 < (x144001.length : Int) then (if 0 ≤ x8 then (if x8 < (x5.length : Int) then ((planisphereref02_chained.f (rdOf ByteArray.empty x144001 x8) (wrap64 (15 - (rd x5 x8)))).bind fun t149 => (if x6.length + t149.length < 8796093022208 then (if 0 ≤ (wrap64 (15 - (rd x5 x8))) then (if (wrap64 (15 - (rd x5 x8))) < (t149.length : Int) then (if x7.length < 8796093022208 then (planisphereref02_Checked.l0 k x5 (x6 ++ t149) (x7 ++ [rdOf ByteArray.empty t149 (wrap64 (15 - (rd x5 x8)))]) (wrap64 (x8 + 1)) x144000 x144001 x144002) else (none)) else (none)) else (none)) else (none))) else (none)) else (none)) else (planisphereref02_Checked.j1 k x6 x7 x144000 x144001 x144002)) else (planisphereref02_Checked.j1 k x6 x7 x144000 x144001 x144002)
end
def planisphereref02_Checked.f (k : Nat) (a0 : ByteArray) (a1_0 : Int) (l1_1 : List ByteArray) (l1_2 : List ByteArray) : Option (List ByteArray) := (planisphereref02_Digits.f a0).bind fun t144 => (planisphereref02_Checked.l0 k t144 ([] : List ByteArray) ([] : List ByteArray) 0 a1_0 l1_1 l1_2)
def planisphereref02_Checked.T7 : Bool × List (List Nat × List Nat) := (true, [([], []), ([0], [0]), ([], []), ([1, 2], [1, 2]), ([3], [3]), ([], []), ([], []), ([5, 6], [5, 6]), ([7], [7]), ([8], [8]), ([4, 9], [4, 9]), ([10, 10, 0, 1, 2, 3, 4, 5, 6, 7, 8, 9, 10], [10])])
def planisphereref02_Checked.B7 : List Nat := [0, 1, 0, 7, 15, 0, 0, 96, 224, 480, 1023, 2047]
theorem planisphereref02_Checked.tab7 : rtab .any (opsOf Tryd.f37 7) = planisphereref02_Checked.T7 := by kernel_rfl
theorem planisphereref02_Checked.bits7 : waitsOk planisphereref02_Checked.T7.2 planisphereref02_Checked.B7 = true := by kernel_rfl
set_option maxHeartbeats 8000000 in
set_option maxRecDepth 100000 in
theorem planisphereref02_Checked.calls (k : Nat) (a0 : ByteArray) (a1_0 : Int) (A1_1 : Option Addr) (c1_1 : Nat) (l1_1 : List ByteArray) (A1_2 : Option Addr) (c1_2 : Nat) (l1_2 : List ByteArray) (r : List ByteArray) (w : World) (hr1_1 : Kd.C Kd.string w A1_1 l1_1.length l1_1) (hc1_1 : l1_1.length ≤ c1_1) (hr1_2 : Kd.C Kd.string w A1_2 l1_2.length l1_2) (hc1_2 : l1_2.length ≤ c1_2) (h : planisphereref02_Checked.f k a0 a1_0 l1_1 l1_2 = some r) :
    Calls Tryd.prog 37 #[.string a0, .agg #[.int .i64 a1_0, .slice A1_1 l1_1.length c1_1, .slice A1_2 l1_2.length c1_2]] w fun e w' => ∃ v0_ : Value, e = .returned (v0_) ∧ Kd.R Kd.string 9 w' w.heap.size (fun _ => True) v0_ r ∧ Below w.heap.size w w' := by
  have hu35 := Tryd.underlying35
  have HR1_1 := Aside0.mk hr1_1
  have HC1_1 := Aside0.mk hc1_1
  clear hr1_1 hc1_1
  have HR1_2 := Aside0.mk hr1_2
  have HC1_2 := Aside0.mk hc1_2
  clear hr1_2 hc1_2
  have HB := Aside0.mk (Below.refl w.heap.size w)
  have H : ((planisphereref02_Digits.f a0).bind fun t144 => (planisphereref02_Checked.l0 k t144 ([] : List ByteArray) ([] : List ByteArray) 0 a1_0 l1_1 l1_2)) = some r := h
  clear h
  replace H := Option.bind_eq_some_iff.mp H
  obtain ⟨t144, A30, H⟩ := H
  replace H : (planisphereref02_Checked.l0 k t144 ([] : List ByteArray) ([] : List ByteArray) 0 a1_0 l1_1 l1_2) = some r := H
  have A3 := Aside0.mk A30
  clear A30
  have HC4 := Aside0.mk H
  clear H
  go_enter Tryd.func37, Tryd.ntmps37
  go_upto_block 0 with (first | ((with_reducible refine gate_dst (N := 3) rfl ?_); (try (refine gate_guard (by rfl) ?_; dsimp only)); refine box_event ?hg (N := 3) ?hd (cs := #[.int .i64 a1_0, .slice A1_1 l1_1.length c1_1, .slice A1_2 l1_2.length c1_2]) (t := 35) ?hr ?_; (case hd => rfl); (case hg => rfl); (case hr => first | (go_simp; done) | (go_simp; rfl)); intro gb143 hg w5 hbox hb; have n0_ := Aside0.mk (below_step (by repeat (first | (with_reducible first | exact HB.out | apply below_alloc | apply pw_below_drewN | apply below_drew1) | exact HB.out)) hb); have n1_ := Aside0.mk (hbox); have n2_ := Aside0.mk ((by rw [hg]; exact (below_size (by repeat (first | (with_reducible first | exact HB.out | apply below_alloc | apply pw_below_drewN | apply below_drew1) | exact HB.out))) : w.heap.size ≤ gb143)); have n3_ := Aside0.mk ((by rw [hg]; exact (below_size (by repeat (first | (with_reducible first | exact HB.out | apply below_alloc | apply pw_below_drewN | apply below_drew1) | exact HB.out))) : w.heap.size ≤ gb143)); clear HB; have HB := n0_; have BK143 := n1_; have GW143 := n2_; have GE143 := n3_; clear n0_ n1_ n2_ n3_; clear hb hbox hg) | ((with_reducible refine gate_callee (f := 56) rfl ?_); refine goesL_ (some 16) rfl rfl Tryd.func56 (by kernel_rfl) rfl #[.string a0] rfl (by (try simp only [List.map_toArray, List.map_cons, List.map_nil]); first | done | rfl | (simp only [List.length_drop, List.length_take]; rfl)) ?_; (with_reducible refine (planisphereref02_Digits.calls a0 t144 _ A3.out).mono ?_); clear A3; rintro e w6 ⟨v145, rfl, ho0, hb⟩; refine ⟨_, rfl, ?_⟩; have n0_ := Aside0.mk (Kd.R_lower ho0 (below_size (by repeat (first | (with_reducible first | exact HB.out | apply below_alloc | apply pw_below_drewN | apply below_drew1 | refine below_set ?_ GE143.out) | exact HB.out)))); have n1_ := Aside0.mk (blk_below (g := gb143) (o := .cells #[.int .i64 a1_0, .slice A1_1 l1_1.length c1_1, .slice A1_2 l1_2.length c1_2] 35 (0, 0)) (by (with_reducible repeat (first | refine blk_drewN ?_ _ | refine blk_drew ?_ | refine blk_alloc ?_ _)); exact BK143.out) hb); have n2_ := Aside0.mk (below_step (by repeat (first | (with_reducible first | exact HB.out | apply below_alloc | apply pw_below_drewN | apply below_drew1 | refine below_set ?_ GE143.out) | exact HB.out)) hb); clear BK143; clear HB; have HO146 := n0_; have BK143 := n1_; have HB := n2_; clear n0_ n1_ n2_; (try clear hb); (try clear hb2); (try clear hk); (try clear hi); (try clear ho0)))
  (try simp only [Act.put, List.setIfInBounds_toArray, List.set_cons_zero, List.set_cons_succ])
  go_cut [6, 7] (fun v6 v7 wc => ∃ (kq : Nat) (x6_3 : List ByteArray) (x7_3 : List ByteArray), Aside0 (planisphereref02_Checked.j1 kq x6_3 x7_3 a1_0 l1_1 l1_2 = some r) ∧ Aside0 (kq ≤ k) ∧ Aside0 (Kd.R Kd.string 9 wc w.heap.size (fun k_ => some k_ ≠ (v7 : Value).ownBlock) v6 x6_3) ∧ Aside0 (Kd.R Kd.string 9 wc w.heap.size (fun k_ => some k_ ≠ (v6 : Value).ownBlock) v7 x7_3) ∧ Aside0 (wc.heap[gb143]? = some (.cells #[.int .i64 a1_0, (.slice A1_1 l1_1.length c1_1), (.slice A1_2 l1_2.length c1_2)] 35 (0, 0))) ∧ Aside0 (Below w.heap.size w wc))
  case first =>
    have H := HC4.out
    clear HC4
    have H' := Aside0.mk H
    clear H
    go_wp2
    go_loopg [6, 7, 8] k (fun kq v6 v7 v8 w' => ∃ (x6_1 : List ByteArray) (x7_1 : List ByteArray) (x8_1 : Int), v8 = .int .i64 x8_1 ∧ Aside0 (planisphereref02_Checked.l0 kq t144 x6_1 x7_1 x8_1 a1_0 l1_1 l1_2 = some r) ∧ Aside0 (kq ≤ k) ∧ Aside0 (Kd.R (Kd.int .i64) 3 w' w.heap.size (fun _ => True) v145 t144) ∧ Aside0 (Kd.R Kd.string 9 w' w.heap.size (fun k_ => some k_ ≠ (v7 : Value).ownBlock) v6 x6_1) ∧ Aside0 (Kd.R Kd.string 9 w' w.heap.size (fun k_ => some k_ ≠ (v6 : Value).ownBlock) v7 x7_1) ∧ Aside0 (w'.heap[gb143]? = some (.cells #[.int .i64 a1_0, (.slice A1_1 l1_1.length c1_1), (.slice A1_2 l1_2.length c1_2)] 35 (0, 0))) ∧ Aside0 (Below w.heap.size w w'))
    case atStart => exact ⟨(([] : List ByteArray)), (([] : List ByteArray)), (0), (by first | rfl | (simp; done) | (simp [*]; done)), H', ⟨Nat.le_refl _⟩, ⟨by (with_reducible repeat (first | apply Kd.R_alloc | apply Kd.R_drewN | apply Kd.R_drew)); exact HO146.out⟩, ⟨by first | exact Kd.R_nil _ _ _ _ _ | exact Kd.N_nil _ _ _ _ _ | exact Kd.V_nil _ _ _ _ _ | exact Kd.Q_nil _ _ _ _ _ | exact Kd.S_nil _ _ _ _ _⟩, ⟨by first | exact Kd.R_nil _ _ _ _ _ | exact Kd.N_nil _ _ _ _ _ | exact Kd.V_nil _ _ _ _ _ | exact Kd.Q_nil _ _ _ _ _ | exact Kd.S_nil _ _ _ _ _⟩, ⟨by (with_reducible repeat (first | refine blk_drewN ?_ _ | refine blk_drew ?_ | refine blk_alloc ?_ _)); exact BK143.out⟩, ⟨by repeat (first | (with_reducible first | exact HB.out | apply below_alloc | apply pw_below_drewN | apply below_drew1 | refine below_set ?_ GE143.out) | exact HB.out)⟩⟩
    case round =>
      clear H'
      try clear c1
      try clear p2
      try clear c3
      try clear c5
      obtain ⟨x6_1, x7_1, x8_1, rfl, HA, HK1, HO_5, HO_6, HO_7, BK143, HB⟩ := hrel
      cases gk with
      | zero => exact absurd HA.out (by simp [planisphereref02_Checked.l0])
      | succ k1 =>
        have H := HA.out
        clear HA
        simp only [planisphereref02_Checked.l0] at H
        by_cases c7 : x8_1 < 18
        · rw [if_pos c7] at H
          have c7b0 : decide (x8_1 < 18) = true := decide_eq_true c7
          clear c7
          (first | rw [c7b0] | (simp only [i64_w, i32_w]; rw [c7b0]) | skip)
          by_cases c8 : x8_1 < (l1_1.length : Int)
          · rw [if_pos c8] at H
            have c8b0 : decide (x8_1 < (l1_1.length : Int)) = true := decide_eq_true c8
            clear c8
            by_cases c9 : 0 ≤ x8_1
            · rw [if_pos c9] at H
              have c9b0 : decide (0 ≤ x8_1) = true := decide_eq_true c9
              clear c9
              by_cases c10 : x8_1 < (t144.length : Int)
              · rw [if_pos c10] at H
                have c10b0 : decide (x8_1 < (t144.length : Int)) = true := decide_eq_true c10
                clear c10
                replace H := Option.bind_eq_some_iff.mp H
                obtain ⟨t149, A110, H⟩ := H
                replace H : (if x6_1.length + t149.length < 8796093022208 then (if 0 ≤ (wrap64 (15 - (rd t144 x8_1))) then (if (wrap64 (15 - (rd t144 x8_1))) < (t149.length : Int) then (if x7_1.length < 8796093022208 then (planisphereref02_Checked.l0 k1 t144 (x6_1 ++ t149) (x7_1 ++ [rdOf ByteArray.empty t149 (wrap64 (15 - (rd t144 x8_1)))]) (wrap64 (x8_1 + 1)) a1_0 l1_1 l1_2) else (none)) else (none)) else (none)) else (none)) = some r := H
                have A11 := Aside0.mk A110
                clear A110
                by_cases c12 : x6_1.length + t149.length < 8796093022208
                · rw [if_pos c12] at H
                  have LMc12 := Aside0.mk c12
                  clear c12
                  obtain ⟨y152, hy152⟩ : ∃ y_ : List ByteArray, y_ = (x6_1 ++ t149) := ⟨_, rfl⟩
                  replace H : (if 0 ≤ (wrap64 (15 - (rd t144 x8_1))) then (if (wrap64 (15 - (rd t144 x8_1))) < (t149.length : Int) then (if x7_1.length < 8796093022208 then (planisphereref02_Checked.l0 k1 t144 y152 (x7_1 ++ [rdOf ByteArray.empty t149 (wrap64 (15 - (rd t144 x8_1)))]) (wrap64 (x8_1 + 1)) a1_0 l1_1 l1_2) else (none)) else (none)) else (none)) = some r := by first | (rw [hy152]; with_reducible exact H) | (have H2_ := (Option.bind_some _ _).symm.trans H; rw [hy152]; with_reducible exact H2_) | (have H2_ := (Option.bind_some _ _).symm.trans H; with_reducible exact H2_) | with_reducible exact H | (rw [hy152]; exact H) | exact H
                  have Ny152 := Aside0.mk hy152
                  clear hy152
                  obtain ⟨ji13, hji13⟩ : ∃ j_ : Int, (wrap64 (15 - (rd t144 x8_1))) = j_ := ⟨_, rfl⟩
                  replace H : (if 0 ≤ (ji13) then (if (ji13) < (t149.length : Int) then (if x7_1.length < 8796093022208 then (planisphereref02_Checked.l0 k1 t144 y152 (x7_1 ++ [rdOf ByteArray.empty t149 (ji13)]) (wrap64 (x8_1 + 1)) a1_0 l1_1 l1_2) else (none)) else (none)) else (none)) = some r := by first | (rw [hji13] at H; exact H) | (simp only [hji13] at H ⊢; exact H)
                  (try rw [hji13] at A11)
                  have hji13w : (IntKind.i64.wrap (15 - (rd t144 x8_1))) = ji13 := (i64_w _).trans hji13
                  by_cases c14 : 0 ≤ (ji13)
                  · rw [if_pos c14] at H
                    have c14b0 : decide (0 ≤ (ji13)) = true := decide_eq_true c14
                    clear c14
                    by_cases c15 : (ji13) < (t149.length : Int)
                    · rw [if_pos c15] at H
                      have c15b0 : decide ((ji13) < (t149.length : Int)) = true := decide_eq_true c15
                      clear c15
                      by_cases c16 : x7_1.length < 8796093022208
                      · rw [if_pos c16] at H
                        have LMc16 := Aside0.mk c16
                        clear c16
                        obtain ⟨y157, hy157⟩ : ∃ y_ : List ByteArray, y_ = (x7_1 ++ [rdOf ByteArray.empty t149 (ji13)]) := ⟨_, rfl⟩
                        replace H : (planisphereref02_Checked.l0 k1 t144 y152 y157 (wrap64 (x8_1 + 1)) a1_0 l1_1 l1_2) = some r := by first | (rw [hy157]; with_reducible exact H) | (have H2_ := (Option.bind_some _ _).symm.trans H; rw [hy157]; with_reducible exact H2_) | (have H2_ := (Option.bind_some _ _).symm.trans H; with_reducible exact H2_) | with_reducible exact H | (rw [hy157]; exact H) | exact H
                        have Ny157 := Aside0.mk hy157
                        clear hy157
                        have H' := Aside0.mk H
                        clear H
                        have hcz17_0 : wr.cell? ⟨gb143, 0, none⟩ = some (.int .i64 a1_0) := (blk_cell BK143.out 0).trans rfl
                        have hcz17_1 : wr.cell? ⟨gb143, 1, none⟩ = some (.slice A1_1 l1_1.length c1_1) := (blk_cell BK143.out 1).trans rfl
                        have hcz17_2 : wr.cell? ⟨gb143, 2, none⟩ = some (.slice A1_2 l1_2.length c1_2) := (blk_cell BK143.out 2).trans rfl
                        have hfz17_0 := blk_frozen BK143.out 0
                        have hfz17_1 := blk_frozen BK143.out 1
                        have hfz17_2 := blk_frozen BK143.out 2
                        try go_wp2
                        have n0_ := Aside0.mk (Kd.R_drew HO_5.out)
                        have n1_ := Aside0.mk (Kd.R_drew HO_6.out)
                        have n2_ := Aside0.mk (Kd.R_drew HO_7.out)
                        have n3_ := Aside0.mk (blk_drew BK143.out)
                        have n4_ := Aside0.mk (below_drew1 HB.out)
                        clear HO_5
                        clear HO_6
                        clear HO_7
                        clear BK143
                        clear HB
                        have HO_5 := n0_
                        have HO_6 := n1_
                        have HO_7 := n2_
                        have BK143 := n3_
                        have HB := n4_
                        clear n0_ n1_ n2_ n3_ n4_
                        have p147 : 0 ≤ (x8_1 : Int) := of_decide_eq_true (by first | (with_reducible assumption) | assumption)
                        have q147 : x8_1 < (l1_1.length : Int) := of_decide_eq_true (by first | (with_reducible assumption) | assumption)
                        obtain ⟨ad147, e147, hx147_0⟩ := Kd.at_string HR1_1.out x8_1 p147 q147
                        have hw147_0 := hx147_0
                        cases e147
                        replace hx147_0 := (HB.out.cell (World.block_lt_of_cell? w _ hx147_0)).trans hx147_0
                        replace p147 := eq_true p147
                        replace q147 := eq_true q147
                        obtain ⟨Ao19, co19, eo19⟩ := Kd.R_slice HO_5.out
                        (first | subst eo19 | (injection eo19 with f1_ f2_ f3_; have f4_ := f1_.symm; have f5_ := f3_.symm; clear f1_ f2_ f3_; subst f4_; subst f5_))
                        have p148 : 0 ≤ (x8_1 : Int) := of_decide_eq_true (by first | (with_reducible assumption) | assumption)
                        have q148 : x8_1 < (t144.length : Int) := of_decide_eq_true (by first | (with_reducible assumption) | assumption)
                        obtain ⟨ad148, e148, hx148_0⟩ := Kd.at_int (Kd.R_reads' HO_5.out).2.2 x8_1 p148 q148
                        cases e148
                        replace p148 := eq_true p148
                        replace q148 := eq_true q148
                        refine start_ (n := 12) (S := fun w' => w'.cell? ⟨gb143, 0, none⟩ = some (.int .i64 a1_0) ∧ w'.cell? ⟨gb143, 1, none⟩ = some (.slice (some ad147) l1_1.length c1_1) ∧ w'.cell? ⟨gb143, 2, none⟩ = some (.slice A1_2 l1_2.length c1_2) ∧ w'.cell? (ad147.add (x8_1).toNat) = some (.string (rdOf ByteArray.empty l1_1 x8_1)) ∧ w'.cell? (ad148.add (x8_1).toNat) = some (.int .i64 (rd t144 x8_1))) (ds := []) #[false, false, false, false, false, false, false, false, false, false, false, false] (by kernel_rfl) rfl rfl ⟨(blk_cell BK143.out 0).trans rfl, (blk_cell BK143.out 1).trans rfl, (blk_cell BK143.out 2).trans rfl, ((HB.out.cell (World.block_lt_of_cell? w _ hw147_0)).trans hw147_0), hx148_0⟩ (fun hHeld => ?_); refine with_tabW planisphereref02_Checked.tab7 planisphereref02_Checked.bits7 (fun HT_ HW_ => ?_)
                        generalize wr.drew = w18 at HO_5 HO_6 HO_7 BK143 HB hx147_0 hx148_0 hHeld ⊢
                        refine pure_ (i := 0) (N := some 28) (v := ?_) (a' := ?_) #[true, false, false, false, false, false, false, false, false, false, false, false] rfl rfl (any_of HT_.out (by kernel_rfl)) (fun _ _ _ h => h) (Or.inl ⟨by rfl, ?_⟩) ?_ ?_
                        rotate_left
                        · intro w'
                          first | (go_simp; with_reducible rfl) | (go_simp; rw [if_neg (by (have hone_ : ∀ b : UInt8, (ByteArray.mk #[b]).size = 1 := fun _ => rfl); (simp only [decide_eq_true_eq, ByteArray.size_extract, ByteArray.size_append, hone_] at *); omega)]; try with_reducible rfl)
                        rotate_left
                        · simp only [Act.put, List.setIfInBounds_toArray, List.set_cons_zero, List.set_cons_succ, i64_w, i32_w]
                          rfl
                        refine pure_ (i := 2) (N := some 30) (v := ?_) (a' := ?_) #[true, false, true, false, false, false, false, false, false, false, false, false] rfl rfl (any_of HT_.out (by kernel_rfl)) (fun _ _ _ h => h) (Or.inl ⟨by rfl, ?_⟩) ?_ ?_
                        rotate_left
                        · intro w'
                          first | (go_simp; with_reducible rfl) | (go_simp; rw [if_neg (by (have hone_ : ∀ b : UInt8, (ByteArray.mk #[b]).size = 1 := fun _ => rfl); (simp only [decide_eq_true_eq, ByteArray.size_extract, ByteArray.size_append, hone_] at *); omega)]; try with_reducible rfl)
                        rotate_left
                        · simp only [Act.put, List.setIfInBounds_toArray, List.set_cons_zero, List.set_cons_succ, i64_w, i32_w]
                          rfl
                        refine pure_ (i := 5) (N := some 33) (v := ?_) (a' := ?_) #[true, false, true, false, false, true, false, false, false, false, false, false] rfl rfl (any_of HT_.out (by kernel_rfl)) (fun _ _ _ h => h) (Or.inl ⟨by rfl, ?_⟩) ?_ ?_
                        rotate_left
                        · intro w'
                          first | (go_simp; with_reducible rfl) | (go_simp; rw [if_neg (by (have hone_ : ∀ b : UInt8, (ByteArray.mk #[b]).size = 1 := fun _ => rfl); (simp only [decide_eq_true_eq, ByteArray.size_extract, ByteArray.size_append, hone_] at *); omega)]; try with_reducible rfl)
                        rotate_left
                        · simp only [Act.put, List.setIfInBounds_toArray, List.set_cons_zero, List.set_cons_succ, i64_w, i32_w]
                          rfl
                        refine pure_ (i := 6) (N := some 34) (v := ?_) (a' := ?_) #[true, false, true, false, false, true, true, false, false, false, false, false] rfl rfl (any_of HT_.out (by kernel_rfl)) (fun _ _ _ h => h) (Or.inl ⟨by rfl, ?_⟩) ?_ ?_
                        rotate_left
                        · intro w'
                          first | (go_simp; with_reducible rfl) | (go_simp; rw [if_neg (by (have hone_ : ∀ b : UInt8, (ByteArray.mk #[b]).size = 1 := fun _ => rfl); (simp only [decide_eq_true_eq, ByteArray.size_extract, ByteArray.size_append, hone_] at *); omega)]; try with_reducible rfl)
                        rotate_left
                        · simp only [Act.put, List.setIfInBounds_toArray, List.set_cons_zero, List.set_cons_succ, i64_w, i32_w]
                          rfl
                        refine pure_ (i := 7) (N := some 35) (v := ?_) (a' := ?_) #[true, false, true, false, false, true, true, true, false, false, false, false] rfl rfl (any_of HT_.out (by kernel_rfl)) (fun _ _ _ h => h) (Or.inl ⟨by rfl, ?_⟩) ?_ ?_
                        rotate_left
                        · intro w'
                          first | (go_simp; with_reducible rfl) | (go_simp; rw [if_neg (by (have hone_ : ∀ b : UInt8, (ByteArray.mk #[b]).size = 1 := fun _ => rfl); (simp only [decide_eq_true_eq, ByteArray.size_extract, ByteArray.size_append, hone_] at *); omega)]; try with_reducible rfl)
                        rotate_left
                        · simp only [Act.put, List.setIfInBounds_toArray, List.set_cons_zero, List.set_cons_succ, i64_w, i32_w]
                          rfl
                        refine take_ (i := 1) (N := some 29) (v := ?_) (a' := ?_) #[true, true, true, false, false, true, true, true, false, false, false, false] rfl rfl (take_ofW HT_.out HW_.out (by kernel_rfl)) (fun _ _ _ h => h) (Or.inl ⟨by rfl, ?_⟩) hHeld ?_ ?_
                        rotate_left
                        · rintro w' ⟨s0, s1, s2, s3, s4⟩
                          go_simp
                          with_reducible rfl
                        rotate_left
                        · simp only [Act.put, List.setIfInBounds_toArray, List.set_cons_zero, List.set_cons_succ, i64_w, i32_w]
                          rfl
                        refine pure_ (i := 3) (N := some 31) (v := ?_) (a' := ?_) #[true, true, true, true, false, true, true, true, false, false, false, false] rfl rfl (any_of HT_.out (by kernel_rfl)) (fun _ _ _ h => h) (Or.inl ⟨by rfl, ?_⟩) ?_ ?_
                        rotate_left
                        · intro w'
                          first | (go_simp; with_reducible rfl) | (go_simp; rw [if_neg (by (have hone_ : ∀ b : UInt8, (ByteArray.mk #[b]).size = 1 := fun _ => rfl); (simp only [decide_eq_true_eq, ByteArray.size_extract, ByteArray.size_append, hone_] at *); omega)]; try with_reducible rfl)
                        rotate_left
                        · simp only [Act.put, List.setIfInBounds_toArray, List.set_cons_zero, List.set_cons_succ, i64_w, i32_w]
                          rfl
                        refine take_ (i := 4) (N := some 32) (v := ?_) (a' := ?_) #[true, true, true, true, true, true, true, true, false, false, false, false] rfl rfl (take_ofW HT_.out HW_.out (by kernel_rfl)) (fun _ _ _ h => h) (Or.inl ⟨by rfl, ?_⟩) hHeld ?_ ?_
                        rotate_left
                        · rintro w' ⟨s0, s1, s2, s3, s4⟩
                          go_simp
                          with_reducible rfl
                        rotate_left
                        · simp only [Act.put, List.setIfInBounds_toArray, List.set_cons_zero, List.set_cons_succ, i64_w, i32_w]
                          rfl
                        refine take_ (i := 8) (N := some 36) (v := ?_) (a' := ?_) #[true, true, true, true, true, true, true, true, true, false, false, false] rfl rfl (take_ofW HT_.out HW_.out (by kernel_rfl)) (fun _ _ _ h => h) (Or.inl ⟨by rfl, ?_⟩) hHeld ?_ ?_
                        rotate_left
                        · rintro w' ⟨s0, s1, s2, s3, s4⟩
                          go_simp
                          with_reducible rfl
                        rotate_left
                        · simp only [Act.put, List.setIfInBounds_toArray, List.set_cons_zero, List.set_cons_succ, i64_w, i32_w]
                          rfl
                        refine pure_ (i := 9) (N := some 37) (v := ?_) (a' := ?_) #[true, true, true, true, true, true, true, true, true, true, false, false] rfl rfl (any_of HT_.out (by kernel_rfl)) (fun _ _ _ h => h) (Or.inl ⟨by rfl, ?_⟩) ?_ ?_
                        rotate_left
                        · intro w'
                          first | (go_simp; with_reducible rfl) | (go_simp; rw [if_neg (by (have hone_ : ∀ b : UInt8, (ByteArray.mk #[b]).size = 1 := fun _ => rfl); (simp only [decide_eq_true_eq, ByteArray.size_extract, ByteArray.size_append, hone_] at *); omega)]; try with_reducible rfl)
                        rotate_left
                        · simp only [Act.put, List.setIfInBounds_toArray, List.set_cons_zero, List.set_cons_succ, i64_w, i32_w]
                          rfl
                        refine one_ (i := 10) (N := some 38) #[true, true, true, true, true, true, true, true, true, true, true, false] rfl rfl (one_of HT_.out (by kernel_rfl)) (by decide) (fun K hK => ?_)
                        refine goes_ Tryd.func66 (by kernel_rfl) rfl #[.string (rdOf ByteArray.empty l1_1 x8_1), .int .i64 ji13] (by rfl) rfl rfl (by (try simp only [List.map_toArray, List.map_cons, List.map_nil]); first | done | (simp only [hji13]; rfl) | rfl | (simp only [List.length_drop, List.length_take]; rfl)) ?_
                        with_reducible refine (planisphereref02_chained.calls (rdOf ByteArray.empty l1_1 x8_1) ji13 t149 _ A11.out).mono ?_
                        rintro e w20 ⟨v150, rfl, ho0, hb⟩
                        have HS4_ := (hb.cell (World.block_lt_of_cell? _ _ (hHeld.2.2.2.2))).trans (hHeld.2.2.2.2)
                        refine ⟨_, rfl, ?_⟩
                        have n0_ := Aside0.mk (Kd.R_below (by (with_reducible repeat (first | apply Kd.R_alloc | apply Kd.R_drewN | apply Kd.R_drew)); exact HO_5.out) hb)
                        have n1_ := Aside0.mk (Kd.R_elder' (by (with_reducible repeat (first | apply Kd.R_alloc | apply Kd.R_drewN | apply Kd.R_drew)); exact HO_6.out) (Kd.R_base ho0) hb)
                        have n2_ := Aside0.mk (Kd.R_elder' (by (with_reducible repeat (first | apply Kd.R_alloc | apply Kd.R_drewN | apply Kd.R_drew)); exact HO_7.out) (Kd.R_base ho0) hb)
                        have n3_ := Aside0.mk (Kd.R_lower (Kd.R_new' (Kd.R_new' ho0 (Kd.R_lt (by (with_reducible repeat (first | apply Kd.R_alloc | apply Kd.R_drewN | apply Kd.R_drew)); exact HO_6.out))) (Kd.R_lt (by (with_reducible repeat (first | apply Kd.R_alloc | apply Kd.R_drewN | apply Kd.R_drew)); exact HO_7.out))) (below_size (by repeat (first | (with_reducible first | exact HB.out | apply below_alloc | apply pw_below_drewN | apply below_drew1 | refine below_set ?_ GE143.out) | exact HB.out))))
                        have n4_ := Aside0.mk (blk_below (g := gb143) (o := .cells #[.int .i64 a1_0, .slice (some ad147) l1_1.length c1_1, .slice A1_2 l1_2.length c1_2] 35 (0, 0)) (by (with_reducible repeat (first | refine blk_drewN ?_ _ | refine blk_drew ?_ | refine blk_alloc ?_ _)); exact BK143.out) hb)
                        have n5_ := Aside0.mk (below_step (by repeat (first | (with_reducible first | exact HB.out | apply below_alloc | apply pw_below_drewN | apply below_drew1 | refine below_set ?_ GE143.out) | exact HB.out)) hb)
                        clear HO_5
                        clear HO_6
                        clear HO_7
                        clear BK143
                        clear HB
                        have HO_5 := n0_
                        have HO_6 := n1_
                        have HO_7 := n2_
                        have HO151 := n3_
                        have BK143 := n4_
                        have HB := n5_
                        clear n0_ n1_ n2_ n3_ n4_ n5_
                        (try clear hb)
                        (try clear hb2)
                        (try clear hk)
                        (try clear hi)
                        (try clear ho0)
                        refine hK.out _ _ ⟨(blk_cell BK143.out 0).trans rfl, (blk_cell BK143.out 1).trans rfl, (blk_cell BK143.out 2).trans rfl, ((HB.out.cell (World.block_lt_of_cell? w _ hw147_0)).trans hw147_0), HS4_⟩ (fun hHeld => ?_)
                        clear hK K
                        refine norm_ (a' := ?_) ?_ ?_
                        rotate_left
                        · show Act.put _ (some 38) _ = _
                          simp only [Act.put, List.setIfInBounds_toArray, List.set_cons_zero, List.set_cons_succ, i64_w, i32_w]
                          rfl
                        refine pure_ (i := 11) (N := some 9) (v := ?_) (a' := ?_) #[true, true, true, true, true, true, true, true, true, true, true, true] rfl rfl (any_of HT_.out (by kernel_rfl)) (fun _ _ _ h => h) (Or.inl ⟨by rfl, ?_⟩) ?_ ?_
                        rotate_left
                        · intro w'
                          first | (go_simp; with_reducible rfl) | (go_simp; rw [if_neg (by (have hone_ : ∀ b : UInt8, (ByteArray.mk #[b]).size = 1 := fun _ => rfl); (simp only [decide_eq_true_eq, ByteArray.size_extract, ByteArray.size_append, hone_] at *); omega)]; try with_reducible rfl)
                        rotate_left
                        · simp only [Act.put, List.setIfInBounds_toArray, List.set_cons_zero, List.set_cons_succ, i64_w, i32_w]
                          rfl
                        refine done_ (done_of HT_.out (by kernel_rfl)) ?_
                        obtain ⟨Ao22, co22, eo22⟩ := Kd.R_slice HO151.out
                        subst eo22
                        try go_wp2_with (first | ((with_reducible refine gate_builtin (b := .append) (xs := #[.tmp 39, .tmp 40]) rfl ?_); (try (refine gate_guard (by rfl) ?_; dsimp only)); at_builtin; refine Kd.R_append_rows Kd.string (w0 := w) w.heap.size rfl (.tmp 39) (.tmp 40) 22 9 (.string ⟨#[]⟩) 16 rfl Tryd.underlying22 info9 rfl (by decide) (by omega) u6 x6_1 t149 _ _ _ (fun k_ => some k_ ≠ (u7 : Value).ownBlock ∧ some k_ ≠ (.slice Ao22 t149.length co22 : Value).ownBlock) (fun _ => False) rfl rfl ?aO ?aR (fun _ _ h => h) (fun _ h => h.elim) ?aF ?aB ?aS ?aL ?_; (case aR => repeat (first | exact (Kd.R_reads' HO151.out).2.2 | (with_reducible refine Kd.C_alloc ?_ _) | (with_reducible refine Kd.C_drewN ?_ _) | (with_reducible refine Kd.C_drew ?_))); (case aB => exact (by repeat (first | (with_reducible first | exact HB.out | apply below_alloc | apply pw_below_drewN | apply below_drew1 | refine below_set ?_ GE143.out) | exact HB.out))); (case aF => exact (fun k_ hk => ⟨Kd.fresh' (Kd.R_lt (by (with_reducible repeat (first | apply Kd.R_alloc | apply Kd.R_drewN | apply Kd.R_drew)); exact HO_7.out)) k_ hk, Kd.fresh' (Kd.R_lt (by (with_reducible repeat (first | apply Kd.R_alloc | apply Kd.R_drewN | apply Kd.R_drew)); exact HO151.out)) k_ hk⟩)); (case aO => exact (by (with_reducible repeat (first | apply Kd.R_alloc | apply Kd.R_drewN | apply Kd.R_drew)); exact HO_6.out)); (case aS => exact (below_size (by repeat (first | (with_reducible first | exact HB.out | apply below_alloc | apply pw_below_drewN | apply below_drew1 | refine below_set ?_ GE143.out) | exact HB.out)))); (case aL => have := LMc12.out; omega); intro v153 w21 ho hb hg hat; rw [← Ny152.out] at ho; have n0_ := Aside0.mk (Kd.R_over' (by (with_reducible repeat (first | apply Kd.R_alloc | apply Kd.R_drewN | apply Kd.R_drew)); exact HO_5.out) (Kd.R_typed (by (with_reducible repeat (first | apply Kd.R_alloc | apply Kd.R_drewN | apply Kd.R_drew)); exact HO_6.out)) (by decide) hg); have n1_ := Aside0.mk (Kd.R_after (ok := (fun k_ => some k_ ≠ (.slice Ao22 t149.length co22 : Value).ownBlock)) (by (with_reducible repeat (first | apply Kd.R_alloc | apply Kd.R_drewN | apply Kd.R_drew)); exact Kd.R_mono HO_7.out (fun _ hk => ⟨hk.2, hk.1⟩)) hg hat); have n2_ := Aside0.mk (blk_grown (g := gb143) (o := .cells #[.int .i64 a1_0, .slice (some ad147) l1_1.length c1_1, .slice A1_2 l1_2.length c1_2] 35 (0, 0)) (by (with_reducible repeat (first | refine blk_drewN ?_ _ | refine blk_drew ?_ | refine blk_alloc ?_ _)); exact BK143.out) hg (Kd.R_ne HO_6.out BK143.out (by decide))); have n3_ := Aside0.mk (Kd.R_after (ok := (fun k_ => some k_ ≠ (u7 : Value).ownBlock)) (by (with_reducible repeat (first | apply Kd.R_alloc | apply Kd.R_drewN | apply Kd.R_drew)); exact Kd.R_mono HO151.out (fun _ hk => ⟨hk.2, hk.1.2⟩)) hg hat); have n4_ := Aside0.mk (hb); have n5_ := Aside0.mk (ho); clear HO_5; clear HO_7; clear BK143; clear HO151; clear HB; clear HO_6; have HO_5 := n0_; have HO_7 := n1_; have BK143 := n2_; have HO151 := n3_; have HB := n4_; have HO154 := n5_; clear n0_ n1_ n2_ n3_ n4_ n5_; clear ho hb hg hat; have p155 : 0 ≤ (x8_1 : Int) := of_decide_eq_true (by first | (with_reducible assumption) | assumption); have q155 : x8_1 < (t144.length : Int) := of_decide_eq_true (by first | (with_reducible assumption) | assumption); obtain ⟨ad155, e155, hx155_0⟩ := Kd.at_int (Kd.R_reads' HO_5.out).2.2 x8_1 p155 q155; obtain rfl : ad148 = ad155 := (by injection e155); replace p155 := eq_true p155; replace q155 := eq_true q155; have p156 : 0 ≤ ((ji13) : Int) := of_decide_eq_true (by first | (with_reducible assumption) | assumption); have q156 : (ji13) < (t149.length : Int) := of_decide_eq_true (by first | (with_reducible assumption) | assumption); obtain ⟨ad156, e156, hx156_0⟩ := Kd.at_string (Kd.R_reads' HO151.out).2.2 (ji13) p156 q156; cases e156; replace p156 := eq_true p156; replace q156 := eq_true q156) | ((with_reducible refine gate_builtin (b := .append) (xs := #[.tmp 42, .tmp 51]) rfl ?_); (try (refine gate_guard (by rfl) ?_; dsimp only)); at_builtin; refine Kd.R_append Kd.string (w0 := w) w.heap.size rfl (.tmp 42) (.tmp 51) 22 9 (.string ⟨#[]⟩) 16 rfl Tryd.underlying22 info9 rfl (by decide) (by omega) u7 x7_1 (rdOf ByteArray.empty t149 (ji13)) [.string (rdOf ByteArray.empty t149 (ji13))] (fun k_ => some k_ ≠ (.slice (some ad156) t149.length co22 : Value).ownBlock ∧ some k_ ≠ (v153 : Value).ownBlock) (fun _ => False) rfl rfl ?aP (fun _ hk => hk.elim) ?aF ?aO ?aB ?aS ?aL ?_; (case aP => exact rfl); (case aB => exact (by repeat (first | (with_reducible first | exact HB.out | apply below_alloc | apply pw_below_drewN | apply below_drew1 | refine below_set ?_ GE143.out) | exact HB.out))); (case aF => exact (fun k_ hk => ⟨Kd.fresh' (Kd.R_lt (by (with_reducible repeat (first | apply Kd.R_alloc | apply Kd.R_drewN | apply Kd.R_drew)); exact HO151.out)) k_ hk, Kd.fresh' (Kd.R_lt (by (with_reducible repeat (first | apply Kd.R_alloc | apply Kd.R_drewN | apply Kd.R_drew)); exact HO154.out)) k_ hk⟩)); (case aO => exact (by (with_reducible repeat (first | apply Kd.R_alloc | apply Kd.R_drewN | apply Kd.R_drew)); exact HO_7.out)); (case aS => exact (below_size (by repeat (first | (with_reducible first | exact HB.out | apply below_alloc | apply pw_below_drewN | apply below_drew1 | refine below_set ?_ GE143.out) | exact HB.out)))); (case aL => have := LMc16.out; omega); intro v158 w23 ho hb hg hat; rw [← Ny157.out] at ho; have n0_ := Aside0.mk (Kd.R_over' (by (with_reducible repeat (first | apply Kd.R_alloc | apply Kd.R_drewN | apply Kd.R_drew)); exact HO_5.out) (Kd.R_typed (by (with_reducible repeat (first | apply Kd.R_alloc | apply Kd.R_drewN | apply Kd.R_drew)); exact HO_7.out)) (by decide) hg); have n1_ := Aside0.mk (blk_grown (g := gb143) (o := .cells #[.int .i64 a1_0, .slice (some ad147) l1_1.length c1_1, .slice A1_2 l1_2.length c1_2] 35 (0, 0)) (by (with_reducible repeat (first | refine blk_drewN ?_ _ | refine blk_drew ?_ | refine blk_alloc ?_ _)); exact BK143.out) hg (Kd.R_ne HO_7.out BK143.out (by decide))); have n2_ := Aside0.mk (Kd.R_after (ok := (fun k_ => some k_ ≠ (v153 : Value).ownBlock)) (by (with_reducible repeat (first | apply Kd.R_alloc | apply Kd.R_drewN | apply Kd.R_drew)); exact Kd.R_mono HO151.out (fun _ hk => ⟨hk.2, hk.1⟩)) hg hat); have n3_ := Aside0.mk (Kd.R_after (ok := (fun k_ => some k_ ≠ (.slice (some ad156) t149.length co22 : Value).ownBlock)) (by (with_reducible repeat (first | apply Kd.R_alloc | apply Kd.R_drewN | apply Kd.R_drew)); exact Kd.R_mono HO154.out (fun _ hk => ⟨hk.2, hk.1⟩)) hg hat); have n4_ := Aside0.mk (hb); have n5_ := Aside0.mk (ho); clear HO_5; clear BK143; clear HO151; clear HO154; clear HB; clear HO_7; have HO_5 := n0_; have BK143 := n1_; have HO151 := n2_; have HO154 := n3_; have HB := n4_; have HO159 := n5_; clear n0_ n1_ n2_ n3_ n4_ n5_; clear ho hb hg hat))
                        go_roundg k1
                        case measure => have := HK1.out; omega
                        case rel => exact ⟨(y152), (y157), (wrap64 (x8_1 + 1)), (by first | rfl | (simp; done) | (simp [*]; done)), H', ⟨by have := HK1.out; omega⟩, ⟨by (with_reducible repeat (first | apply Kd.R_alloc | apply Kd.R_drewN | apply Kd.R_drew)); exact HO_5.out⟩, ⟨by (with_reducible repeat (first | apply Kd.R_alloc | apply Kd.R_drewN | apply Kd.R_drew)); exact Kd.R_mono HO154.out (fun _ hk => hk.2)⟩, ⟨by (with_reducible repeat (first | apply Kd.R_alloc | apply Kd.R_drewN | apply Kd.R_drew)); exact Kd.R_mono HO159.out (fun _ hk => hk.2)⟩, ⟨by (with_reducible repeat (first | refine blk_drewN ?_ _ | refine blk_drew ?_ | refine blk_alloc ?_ _)); exact BK143.out⟩, ⟨by repeat (first | (with_reducible first | exact HB.out | apply below_alloc | apply pw_below_drewN | apply below_drew1 | refine below_set ?_ GE143.out) | exact HB.out)⟩⟩
                      · rw [if_neg c16] at H
                        exact absurd H (by simp)
                    · rw [if_neg c15] at H
                      exact absurd H (by simp)
                  · rw [if_neg c14] at H
                    exact absurd H (by simp)
                · rw [if_neg c12] at H
                  exact absurd H (by simp)
              · rw [if_neg c10] at H
                exact absurd H (by simp)
            · rw [if_neg c9] at H
              exact absurd H (by simp)
          · rw [if_neg c8] at H
            have c8b0 : decide (x8_1 < (l1_1.length : Int)) = false := decide_eq_false c8
            clear c8
            have H' := Aside0.mk H
            clear H
            have hcz24_0 : wr.cell? ⟨gb143, 0, none⟩ = some (.int .i64 a1_0) := (blk_cell BK143.out 0).trans rfl
            have hcz24_1 : wr.cell? ⟨gb143, 1, none⟩ = some (.slice A1_1 l1_1.length c1_1) := (blk_cell BK143.out 1).trans rfl
            have hcz24_2 : wr.cell? ⟨gb143, 2, none⟩ = some (.slice A1_2 l1_2.length c1_2) := (blk_cell BK143.out 2).trans rfl
            have hfz24_0 := blk_frozen BK143.out 0
            have hfz24_1 := blk_frozen BK143.out 1
            have hfz24_2 := blk_frozen BK143.out 2
            go_wp2
            go_meet
            case rel => exact ⟨_, (x6_1), (x7_1), H', ⟨by have := HK1.out; first | omega | exact Nat.le_refl _⟩, ⟨by (with_reducible repeat (first | apply Kd.R_alloc | apply Kd.R_drewN | apply Kd.R_drew)); exact HO_6.out⟩, ⟨by (with_reducible repeat (first | apply Kd.R_alloc | apply Kd.R_drewN | apply Kd.R_drew)); exact HO_7.out⟩, ⟨by (with_reducible repeat (first | refine blk_drewN ?_ _ | refine blk_drew ?_ | refine blk_alloc ?_ _)); exact BK143.out⟩, ⟨by repeat (first | (with_reducible first | exact HB.out | apply below_alloc | apply pw_below_drewN | apply below_drew1 | refine below_set ?_ GE143.out) | exact HB.out)⟩⟩
        · rw [if_neg c7] at H
          have c7b0 : decide (x8_1 < 18) = false := decide_eq_false c7
          clear c7
          (first | rw [c7b0] | (simp only [i64_w, i32_w]; rw [c7b0]) | skip)
          have H' := Aside0.mk H
          clear H
          go_wp2
          go_meet
          case rel => exact ⟨_, (x6_1), (x7_1), H', ⟨by have := HK1.out; first | omega | exact Nat.le_refl _⟩, ⟨by (with_reducible repeat (first | apply Kd.R_alloc | apply Kd.R_drewN | apply Kd.R_drew)); exact HO_6.out⟩, ⟨by (with_reducible repeat (first | apply Kd.R_alloc | apply Kd.R_drewN | apply Kd.R_drew)); exact HO_7.out⟩, ⟨by (with_reducible repeat (first | refine blk_drewN ?_ _ | refine blk_drew ?_ | refine blk_alloc ?_ _)); exact BK143.out⟩, ⟨by repeat (first | (with_reducible first | exact HB.out | apply below_alloc | apply pw_below_drewN | apply below_drew1 | refine below_set ?_ GE143.out) | exact HB.out)⟩⟩
  case rest =>
    clear HC4
    try clear c1
    try clear p1
    try clear q1
    try clear hx1
    try clear p2
    try clear c3
    try clear c5
    try clear c6
    try clear p6
    try clear c7
    try clear c7b0
    try clear c8
    try clear c8b0
    try clear c9
    try clear c9b0
    try clear c10
    try clear c10b0
    try clear c12
    try clear c14
    try clear c14b0
    try clear p14
    try clear q14
    try clear hx14
    try clear c15
    try clear c15b0
    try clear p15
    try clear q15
    try clear hx15
    try clear c16
    try clear hcz17_0
    try clear hcz17_1
    try clear hcz17_2
    try clear hcz24_0
    try clear hcz24_1
    try clear hcz24_2
    try clear hfz17_0
    try clear hfz17_1
    try clear hfz17_2
    try clear hfz24_0
    try clear hfz24_1
    try clear hfz24_2
    try clear hx147_0
    try clear hx148_0
    try clear hx155_0
    try clear hx156_0
    try clear p147
    try clear p148
    try clear p155
    try clear p156
    try clear p2
    try clear q147
    try clear q148
    try clear q155
    try clear q156
    obtain ⟨kq, x6_3, x7_3, HA, HJ3, HO_6, HO_7, BK143, HB⟩ := hcut
    cases kq with
    | zero => exact absurd HA.out (by simp [planisphereref02_Checked.j1])
    | succ kj3 =>
      have H := HA.out
      clear HA
      simp only [planisphereref02_Checked.j1] at H
      replace H := Option.bind_eq_some_iff.mp H
      obtain ⟨t160, A250, H⟩ := H
      replace H : (if x6_3.length < 8796093022208 then ((planisphereref01_Sum.f t160).bind fun t164 => (planisphereref02_Checked.l1 kj3 (x6_3 ++ [t160]) t164 a1_0 0 a1_0 l1_1 l1_2)) else (none)) = some r := H
      have A25 := Aside0.mk A250
      clear A250
      by_cases c26 : x6_3.length < 8796093022208
      · rw [if_pos c26] at H
        have LMc26 := Aside0.mk c26
        clear c26
        obtain ⟨y161, hy161⟩ : ∃ y_ : List ByteArray, y_ = (x6_3 ++ [t160]) := ⟨_, rfl⟩
        replace H : ((planisphereref01_Sum.f t160).bind fun t164 => (planisphereref02_Checked.l1 kj3 y161 t164 a1_0 0 a1_0 l1_1 l1_2)) = some r := by first | (rw [hy161]; with_reducible exact H) | (have H2_ := (Option.bind_some _ _).symm.trans H; rw [hy161]; with_reducible exact H2_) | (have H2_ := (Option.bind_some _ _).symm.trans H; with_reducible exact H2_) | with_reducible exact H | (rw [hy161]; exact H) | exact H
        have Ny161 := Aside0.mk hy161
        clear hy161
        replace H := Option.bind_eq_some_iff.mp H
        obtain ⟨t164, A270, H⟩ := H
        replace H : (planisphereref02_Checked.l1 kj3 y161 t164 a1_0 0 a1_0 l1_1 l1_2) = some r := H
        have A27 := Aside0.mk A270
        clear A270
        have H' := Aside0.mk H
        clear H
        obtain ⟨Ao28, co28, eo28⟩ := Kd.R_slice HO_7.out
        subst eo28
        go_wp2_with (first | ((with_reducible refine gate_callee (f := 23) rfl ?_); refine goesL_ (some 54) rfl rfl Tryd.func23 (by kernel_rfl) rfl #[.slice Ao28 x7_3.length co28] rfl (by (try simp only [List.map_toArray, List.map_cons, List.map_nil]); first | done | rfl | (simp only [List.length_drop, List.length_take]; rfl)) ?_; (with_reducible refine (planisphereref01_Joined.calls _ _ x7_3 t160 _ ?side1 ?side2 A25.out).mono ?_); clear A25; (case side1 => repeat (first | exact (Kd.R_reads' HO_7.out).2.2 | (with_reducible refine Kd.C_alloc ?_ _) | (with_reducible refine Kd.C_drewN ?_ _) | (with_reducible refine Kd.C_drew ?_))); (case side2 => exact (Kd.R_reads' HO_7.out).2.1); rintro e w29 ⟨rfl, hb⟩; refine ⟨_, rfl, ?_⟩; have n0_ := Aside0.mk (Kd.R_below (by (with_reducible repeat (first | apply Kd.R_alloc | apply Kd.R_drewN | apply Kd.R_drew)); exact HO_6.out) hb); have n1_ := Aside0.mk (Kd.R_below (by (with_reducible repeat (first | apply Kd.R_alloc | apply Kd.R_drewN | apply Kd.R_drew)); exact HO_7.out) hb); have n2_ := Aside0.mk (blk_below (g := gb143) (o := .cells #[.int .i64 a1_0, .slice A1_1 l1_1.length c1_1, .slice A1_2 l1_2.length c1_2] 35 (0, 0)) (by (with_reducible repeat (first | refine blk_drewN ?_ _ | refine blk_drew ?_ | refine blk_alloc ?_ _)); exact BK143.out) hb); have n3_ := Aside0.mk (below_step (by repeat (first | (with_reducible first | exact HB.out | apply below_alloc | apply pw_below_drewN | apply below_drew1 | refine below_set ?_ GE143.out) | exact HB.out)) hb); clear HO_6; clear HO_7; clear BK143; clear HB; have HO_6 := n0_; have HO_7 := n1_; have BK143 := n2_; have HB := n3_; clear n0_ n1_ n2_ n3_; (try clear hb); (try clear hb2); (try clear hk); (try clear hi)) | ((with_reducible refine gate_builtin (b := .append) (xs := #[.tmp 55, .tmp 57]) rfl ?_); (try (refine gate_guard (by rfl) ?_; dsimp only)); at_builtin; refine Kd.R_append Kd.string (w0 := w) w.heap.size rfl (.tmp 55) (.tmp 57) 22 9 (.string ⟨#[]⟩) 16 rfl Tryd.underlying22 info9 rfl (by decide) (by omega) u6 x6_3 t160 [.string t160] (fun k_ => some k_ ≠ (.slice Ao28 x7_3.length co28 : Value).ownBlock) (fun _ => False) rfl rfl ?aP (fun _ hk => hk.elim) ?aF ?aO ?aB ?aS ?aL ?_; (case aP => exact rfl); (case aB => exact (by repeat (first | (with_reducible first | exact HB.out | apply below_alloc | apply pw_below_drewN | apply below_drew1 | refine below_set ?_ GE143.out) | exact HB.out))); (case aF => exact (fun k_ hk => Kd.fresh' (Kd.R_lt (by (with_reducible repeat (first | apply Kd.R_alloc | apply Kd.R_drewN | apply Kd.R_drew)); exact HO_7.out)) k_ hk)); (case aO => exact (by (with_reducible repeat (first | apply Kd.R_alloc | apply Kd.R_drewN | apply Kd.R_drew)); exact HO_6.out)); (case aS => exact (below_size (by repeat (first | (with_reducible first | exact HB.out | apply below_alloc | apply pw_below_drewN | apply below_drew1 | refine below_set ?_ GE143.out) | exact HB.out)))); (case aL => have := LMc26.out; omega); intro v162 w30 ho hb hg hat; rw [← Ny161.out] at ho; have n0_ := Aside0.mk (Kd.R_after (ok := (fun _ => True)) (by (with_reducible repeat (first | apply Kd.R_alloc | apply Kd.R_drewN | apply Kd.R_drew)); exact Kd.R_mono HO_7.out (fun _ hk => ⟨trivial, hk⟩)) hg hat); have n1_ := Aside0.mk (blk_grown (g := gb143) (o := .cells #[.int .i64 a1_0, .slice A1_1 l1_1.length c1_1, .slice A1_2 l1_2.length c1_2] 35 (0, 0)) (by (with_reducible repeat (first | refine blk_drewN ?_ _ | refine blk_drew ?_ | refine blk_alloc ?_ _)); exact BK143.out) hg (Kd.R_ne HO_6.out BK143.out (by decide))); have n2_ := Aside0.mk (hb); have n3_ := Aside0.mk (ho); clear HO_7; clear BK143; clear HB; clear HO_6; have HO_7 := n0_; have BK143 := n1_; have HB := n2_; have HO163 := n3_; clear n0_ n1_ n2_ n3_; clear ho hb hg hat) | ((with_reducible refine gate_callee (f := 18) rfl ?_); refine goesL_ (some 60) rfl rfl Tryd.func18 (by kernel_rfl) rfl #[.string t160] rfl (by (try simp only [List.map_toArray, List.map_cons, List.map_nil]); first | done | rfl | (simp only [List.length_drop, List.length_take]; rfl)) ?_; (with_reducible refine (planisphereref01_Sum.callsB t160 t164 _ A27.out).mono ?_); clear A27; rintro e w31 ⟨rfl, hb⟩; refine ⟨_, rfl, ?_⟩; have n0_ := Aside0.mk (Kd.R_below (by (with_reducible repeat (first | apply Kd.R_alloc | apply Kd.R_drewN | apply Kd.R_drew)); exact HO_7.out) hb); have n1_ := Aside0.mk (Kd.R_below (by (with_reducible repeat (first | apply Kd.R_alloc | apply Kd.R_drewN | apply Kd.R_drew)); exact HO163.out) hb); have n2_ := Aside0.mk (blk_below (g := gb143) (o := .cells #[.int .i64 a1_0, .slice A1_1 l1_1.length c1_1, .slice A1_2 l1_2.length c1_2] 35 (0, 0)) (by (with_reducible repeat (first | refine blk_drewN ?_ _ | refine blk_drew ?_ | refine blk_alloc ?_ _)); exact BK143.out) hb); have n3_ := Aside0.mk (below_step (by repeat (first | (with_reducible first | exact HB.out | apply below_alloc | apply pw_below_drewN | apply below_drew1 | refine below_set ?_ GE143.out) | exact HB.out)) hb); clear HO_7; clear HO163; clear BK143; clear HB; have HO_7 := n0_; have HO163 := n1_; have BK143 := n2_; have HB := n3_; clear n0_ n1_ n2_ n3_; (try clear hb); (try clear hb2); (try clear hk); (try clear hi); have hcz32_0 : w31.cell? ⟨gb143, 0, none⟩ = some (.int .i64 a1_0) := (blk_cell BK143.out 0).trans rfl; have hcz32_1 : w31.cell? ⟨gb143, 1, none⟩ = some (.slice A1_1 l1_1.length c1_1) := (blk_cell BK143.out 1).trans rfl; have hcz32_2 : w31.cell? ⟨gb143, 2, none⟩ = some (.slice A1_2 l1_2.length c1_2) := (blk_cell BK143.out 2).trans rfl; have hfz32_0 := blk_frozen BK143.out 0; have hfz32_1 := blk_frozen BK143.out 1; have hfz32_2 := blk_frozen BK143.out 2))
        go_loopg [6, 11, 12, 13] kj3 (fun kq v6 v11 v12 v13 w' => ∃ (x6_2 : List ByteArray) (x11_2 : ByteArray) (x12_2 : Int) (x13_2 : Int), v11 = .string x11_2 ∧ v12 = .int .i64 x12_2 ∧ v13 = .int .i64 x13_2 ∧ Aside0 (planisphereref02_Checked.l1 kq x6_2 x11_2 x12_2 x13_2 a1_0 l1_1 l1_2 = some r) ∧ Aside0 (kq ≤ kj3) ∧ Aside0 (Kd.R Kd.string 9 w' w.heap.size (fun _ => True) v6 x6_2) ∧ Aside0 (w'.heap[gb143]? = some (.cells #[.int .i64 a1_0, (.slice A1_1 l1_1.length c1_1), (.slice A1_2 l1_2.length c1_2)] 35 (0, 0))) ∧ Aside0 (Below w.heap.size w w'))
        case atStart => exact ⟨(y161), (t164), (a1_0), (0), (by first | rfl | (simp; done) | (simp [*]; done)), (by first | rfl | (simp; done) | (simp [*]; done)), (by first | rfl | (simp; done) | (simp [*]; done)), H', ⟨Nat.le_refl _⟩, ⟨by (with_reducible repeat (first | apply Kd.R_alloc | apply Kd.R_drewN | apply Kd.R_drew)); exact Kd.R_mono HO163.out (fun _ hk => trivial)⟩, ⟨by (with_reducible repeat (first | refine blk_drewN ?_ _ | refine blk_drew ?_ | refine blk_alloc ?_ _)); exact BK143.out⟩, ⟨by repeat (first | (with_reducible first | exact HB.out | apply below_alloc | apply pw_below_drewN | apply below_drew1 | refine below_set ?_ GE143.out) | exact HB.out)⟩⟩
        case round =>
          clear H'
          try clear c1
          try clear p1
          try clear q1
          try clear hx1
          try clear c2
          try clear p2
          try clear c3
          try clear c5
          try clear c6
          try clear p6
          try clear c7
          try clear c7b0
          try clear c8
          try clear c8b0
          try clear c9
          try clear c9b0
          try clear c10
          try clear c10b0
          try clear c12
          try clear c14
          try clear c14b0
          try clear p14
          try clear q14
          try clear hx14
          try clear c15
          try clear c15b0
          try clear p15
          try clear q15
          try clear hx15
          try clear c16
          try clear c18
          try clear c23
          try clear c26
          try clear hcz17_0
          try clear hcz17_1
          try clear hcz17_2
          try clear hcz24_0
          try clear hcz24_1
          try clear hcz24_2
          try clear hcz32_0
          try clear hcz32_1
          try clear hcz32_2
          try clear hfz17_0
          try clear hfz17_1
          try clear hfz17_2
          try clear hfz24_0
          try clear hfz24_1
          try clear hfz24_2
          try clear hfz32_0
          try clear hfz32_1
          try clear hfz32_2
          try clear hx147_0
          try clear hx148_0
          try clear hx155_0
          try clear hx156_0
          try clear p1
          try clear p14
          try clear p147
          try clear p148
          try clear p15
          try clear p155
          try clear p156
          try clear p2
          try clear p6
          try clear q1
          try clear q14
          try clear q147
          try clear q148
          try clear q15
          try clear q155
          try clear q156
          obtain ⟨x6_2, x11_2, x12_2, x13_2, rfl, rfl, rfl, HA, HK2, HO_6, BK143, HB⟩ := hrel
          cases gk with
          | zero => exact absurd HA.out (by simp [planisphereref02_Checked.l1])
          | succ k2 =>
            have H := HA.out
            clear HA
            simp only [planisphereref02_Checked.l1] at H
            by_cases c33 : x13_2 < (l1_2.length : Int)
            · rw [if_pos c33] at H
              have c33b0 : decide (x13_2 < (l1_2.length : Int)) = true := decide_eq_true c33
              clear c33
              by_cases c34 : 0 ≤ x13_2
              · rw [if_pos c34] at H
                have c34b0 : decide (0 ≤ x13_2) = true := decide_eq_true c34
                clear c34
                replace H := Option.bind_eq_some_iff.mp H
                obtain ⟨t166, A350, H⟩ := H
                replace H : (if (Int.tmod x12_2 2) = 1 then ((planisphereref02_node.f (rdOf ByteArray.empty l1_2 x13_2) x11_2).bind fun t168 => (if x6_2.length < 8796093022208 then ((planisphereref01_Sum.f t168).bind fun t172 => (planisphereref02_Checked.l1 k2 (x6_2 ++ [t168]) t172 (wrap64 (Int.tdiv x12_2 2)) (wrap64 (x13_2 + 1)) a1_0 l1_1 l1_2)) else (none))) else (if x6_2.length < 8796093022208 then ((planisphereref01_Sum.f t166).bind fun t176 => (planisphereref02_Checked.l1 k2 (x6_2 ++ [t166]) t176 (wrap64 (Int.tdiv x12_2 2)) (wrap64 (x13_2 + 1)) a1_0 l1_1 l1_2)) else (none))) = some r := H
                have A35 := Aside0.mk A350
                clear A350
                by_cases c36 : (Int.tmod x12_2 2) = 1
                · rw [if_pos c36] at H
                  have c36b0 : ((Int.tmod x12_2 2) == 1) = true := beq_iff_eq.mpr c36
                  have c36b1 : ((Int.tmod x12_2 2) != 1) = false := bne_eq_false_iff_eq.mpr c36
                  clear c36
                  replace H := Option.bind_eq_some_iff.mp H
                  obtain ⟨t168, A370, H⟩ := H
                  replace H : (if x6_2.length < 8796093022208 then ((planisphereref01_Sum.f t168).bind fun t172 => (planisphereref02_Checked.l1 k2 (x6_2 ++ [t168]) t172 (wrap64 (Int.tdiv x12_2 2)) (wrap64 (x13_2 + 1)) a1_0 l1_1 l1_2)) else (none)) = some r := H
                  have A37 := Aside0.mk A370
                  clear A370
                  by_cases c38 : x6_2.length < 8796093022208
                  · rw [if_pos c38] at H
                    have LMc38 := Aside0.mk c38
                    clear c38
                    obtain ⟨y169, hy169⟩ : ∃ y_ : List ByteArray, y_ = (x6_2 ++ [t168]) := ⟨_, rfl⟩
                    replace H : ((planisphereref01_Sum.f t168).bind fun t172 => (planisphereref02_Checked.l1 k2 y169 t172 (wrap64 (Int.tdiv x12_2 2)) (wrap64 (x13_2 + 1)) a1_0 l1_1 l1_2)) = some r := by first | (rw [hy169]; with_reducible exact H) | (have H2_ := (Option.bind_some _ _).symm.trans H; rw [hy169]; with_reducible exact H2_) | (have H2_ := (Option.bind_some _ _).symm.trans H; with_reducible exact H2_) | with_reducible exact H | (rw [hy169]; exact H) | exact H
                    have Ny169 := Aside0.mk hy169
                    clear hy169
                    replace H := Option.bind_eq_some_iff.mp H
                    obtain ⟨t172, A390, H⟩ := H
                    replace H : (planisphereref02_Checked.l1 k2 y169 t172 (wrap64 (Int.tdiv x12_2 2)) (wrap64 (x13_2 + 1)) a1_0 l1_1 l1_2) = some r := H
                    have A39 := Aside0.mk A390
                    clear A390
                    have H' := Aside0.mk H
                    clear H
                    have hcz40_0 : wr.cell? ⟨gb143, 0, none⟩ = some (.int .i64 a1_0) := (blk_cell BK143.out 0).trans rfl
                    have hcz40_1 : wr.cell? ⟨gb143, 1, none⟩ = some (.slice A1_1 l1_1.length c1_1) := (blk_cell BK143.out 1).trans rfl
                    have hcz40_2 : wr.cell? ⟨gb143, 2, none⟩ = some (.slice A1_2 l1_2.length c1_2) := (blk_cell BK143.out 2).trans rfl
                    have hfz40_0 := blk_frozen BK143.out 0
                    have hfz40_1 := blk_frozen BK143.out 1
                    have hfz40_2 := blk_frozen BK143.out 2
                    have p165 : 0 ≤ (x13_2 : Int) := of_decide_eq_true (by first | (with_reducible assumption) | assumption)
                    have q165 : x13_2 < (l1_2.length : Int) := of_decide_eq_true (by first | (with_reducible assumption) | assumption)
                    obtain ⟨ad165, e165, hx165_0⟩ := Kd.at_string HR1_2.out x13_2 p165 q165
                    cases e165
                    replace hx165_0 := (HB.out.cell (World.block_lt_of_cell? w _ hx165_0)).trans hx165_0
                    replace p165 := eq_true p165
                    replace q165 := eq_true q165
                    go_wp2_with (first | ((with_reducible refine gate_callee (f := 67) rfl ?_); refine goesL_ (some 76) rfl rfl Tryd.func67 (by kernel_rfl) rfl #[.string x11_2, .string (rdOf ByteArray.empty l1_2 x13_2)] rfl (by (try simp only [List.map_toArray, List.map_cons, List.map_nil]); first | done | rfl | (simp only [List.length_drop, List.length_take]; rfl)) ?_; (with_reducible refine (planisphereref02_node.calls x11_2 (rdOf ByteArray.empty l1_2 x13_2) t166 _ A35.out).mono ?_); clear A35; rintro e w41 ⟨rfl, hb⟩; refine ⟨_, rfl, ?_⟩; have n0_ := Aside0.mk (Kd.R_below (by (with_reducible repeat (first | apply Kd.R_alloc | apply Kd.R_drewN | apply Kd.R_drew)); exact HO_6.out) hb); have n1_ := Aside0.mk (blk_below (g := gb143) (o := .cells #[.int .i64 a1_0, .slice A1_1 l1_1.length c1_1, .slice (some ad165) l1_2.length c1_2] 35 (0, 0)) (by (with_reducible repeat (first | refine blk_drewN ?_ _ | refine blk_drew ?_ | refine blk_alloc ?_ _)); exact BK143.out) hb); have n2_ := Aside0.mk (below_step (by repeat (first | (with_reducible first | exact HB.out | apply below_alloc | apply pw_below_drewN | apply below_drew1 | refine below_set ?_ GE143.out) | exact HB.out)) hb); clear HO_6; clear BK143; clear HB; have HO_6 := n0_; have BK143 := n1_; have HB := n2_; clear n0_ n1_ n2_; (try clear hb); (try clear hb2); (try clear hk); (try clear hi); have hcz42_0 : w41.cell? ⟨gb143, 0, none⟩ = some (.int .i64 a1_0) := (blk_cell BK143.out 0).trans rfl; have hcz42_1 : w41.cell? ⟨gb143, 1, none⟩ = some (.slice A1_1 l1_1.length c1_1) := (blk_cell BK143.out 1).trans rfl; have hcz42_2 : w41.cell? ⟨gb143, 2, none⟩ = some (.slice (some ad165) l1_2.length c1_2) := (blk_cell BK143.out 2).trans rfl; have hfz42_0 := blk_frozen BK143.out 0; have hfz42_1 := blk_frozen BK143.out 1; have hfz42_2 := blk_frozen BK143.out 2; have p167 : 0 ≤ (x13_2 : Int) := of_decide_eq_true (by first | (with_reducible assumption) | assumption); have q167 : x13_2 < (l1_2.length : Int) := of_decide_eq_true (by first | (with_reducible assumption) | assumption); obtain ⟨ad167, e167, hx167_0⟩ := Kd.at_string HR1_2.out x13_2 p167 q167; obtain rfl : ad165 = ad167 := (by injection e167); replace hx167_0 := (HB.out.cell (World.block_lt_of_cell? w _ hx167_0)).trans hx167_0; replace p167 := eq_true p167; replace q167 := eq_true q167) | ((with_reducible refine gate_callee (f := 67) rfl ?_); refine goesL_ (some 86) rfl rfl Tryd.func67 (by kernel_rfl) rfl #[.string (rdOf ByteArray.empty l1_2 x13_2), .string x11_2] rfl (by (try simp only [List.map_toArray, List.map_cons, List.map_nil]); first | done | rfl | (simp only [List.length_drop, List.length_take]; rfl)) ?_; (with_reducible refine (planisphereref02_node.calls (rdOf ByteArray.empty l1_2 x13_2) x11_2 t168 _ A37.out).mono ?_); clear A37; rintro e w43 ⟨rfl, hb⟩; refine ⟨_, rfl, ?_⟩; have n0_ := Aside0.mk (Kd.R_below (by (with_reducible repeat (first | apply Kd.R_alloc | apply Kd.R_drewN | apply Kd.R_drew)); exact HO_6.out) hb); have n1_ := Aside0.mk (blk_below (g := gb143) (o := .cells #[.int .i64 a1_0, .slice A1_1 l1_1.length c1_1, .slice (some ad165) l1_2.length c1_2] 35 (0, 0)) (by (with_reducible repeat (first | refine blk_drewN ?_ _ | refine blk_drew ?_ | refine blk_alloc ?_ _)); exact BK143.out) hb); have n2_ := Aside0.mk (below_step (by repeat (first | (with_reducible first | exact HB.out | apply below_alloc | apply pw_below_drewN | apply below_drew1 | refine below_set ?_ GE143.out) | exact HB.out)) hb); clear HO_6; clear BK143; clear HB; have HO_6 := n0_; have BK143 := n1_; have HB := n2_; clear n0_ n1_ n2_; (try clear hb); (try clear hb2); (try clear hk); (try clear hi)) | ((with_reducible refine gate_builtin (b := .append) (xs := #[.tmp 87, .tmp 89]) rfl ?_); (try (refine gate_guard (by rfl) ?_; dsimp only)); at_builtin; refine Kd.R_append Kd.string (w0 := w) w.heap.size rfl (.tmp 87) (.tmp 89) 22 9 (.string ⟨#[]⟩) 16 rfl Tryd.underlying22 info9 rfl (by decide) (by omega) u6 x6_2 t168 [.string t168] (fun _ => True) (fun _ => False) rfl rfl ?aP (fun _ hk => hk.elim) ?aF ?aO ?aB ?aS ?aL ?_; (case aP => exact rfl); (case aB => exact (by repeat (first | (with_reducible first | exact HB.out | apply below_alloc | apply pw_below_drewN | apply below_drew1 | refine below_set ?_ GE143.out) | exact HB.out))); (case aF => exact (fun _ _ => trivial)); (case aO => exact (by (with_reducible repeat (first | apply Kd.R_alloc | apply Kd.R_drewN | apply Kd.R_drew)); exact HO_6.out)); (case aS => exact (below_size (by repeat (first | (with_reducible first | exact HB.out | apply below_alloc | apply pw_below_drewN | apply below_drew1 | refine below_set ?_ GE143.out) | exact HB.out)))); (case aL => have := LMc38.out; omega); intro v170 w44 ho hb hg hat; rw [← Ny169.out] at ho; have n0_ := Aside0.mk (blk_grown (g := gb143) (o := .cells #[.int .i64 a1_0, .slice A1_1 l1_1.length c1_1, .slice (some ad165) l1_2.length c1_2] 35 (0, 0)) (by (with_reducible repeat (first | refine blk_drewN ?_ _ | refine blk_drew ?_ | refine blk_alloc ?_ _)); exact BK143.out) hg (Kd.R_ne HO_6.out BK143.out (by decide))); have n1_ := Aside0.mk (hb); have n2_ := Aside0.mk (ho); clear BK143; clear HB; clear HO_6; have BK143 := n0_; have HB := n1_; have HO171 := n2_; clear n0_ n1_ n2_; clear ho hb hg hat) | ((with_reducible refine gate_callee (f := 18) rfl ?_); refine goesL_ (some 92) rfl rfl Tryd.func18 (by kernel_rfl) rfl #[.string t168] rfl (by (try simp only [List.map_toArray, List.map_cons, List.map_nil]); first | done | rfl | (simp only [List.length_drop, List.length_take]; rfl)) ?_; (with_reducible refine (planisphereref01_Sum.callsB t168 t172 _ A39.out).mono ?_); clear A39; rintro e w45 ⟨rfl, hb⟩; refine ⟨_, rfl, ?_⟩; have n0_ := Aside0.mk (Kd.R_below (by (with_reducible repeat (first | apply Kd.R_alloc | apply Kd.R_drewN | apply Kd.R_drew)); exact HO171.out) hb); have n1_ := Aside0.mk (blk_below (g := gb143) (o := .cells #[.int .i64 a1_0, .slice A1_1 l1_1.length c1_1, .slice (some ad165) l1_2.length c1_2] 35 (0, 0)) (by (with_reducible repeat (first | refine blk_drewN ?_ _ | refine blk_drew ?_ | refine blk_alloc ?_ _)); exact BK143.out) hb); have n2_ := Aside0.mk (below_step (by repeat (first | (with_reducible first | exact HB.out | apply below_alloc | apply pw_below_drewN | apply below_drew1 | refine below_set ?_ GE143.out) | exact HB.out)) hb); clear HO171; clear BK143; clear HB; have HO171 := n0_; have BK143 := n1_; have HB := n2_; clear n0_ n1_ n2_; (try clear hb); (try clear hb2); (try clear hk); (try clear hi)))
                    go_roundg k2
                    case measure => have := HJ3.out; have := HK2.out; omega
                    case rel => exact ⟨(y169), (t172), (wrap64 (Int.tdiv x12_2 2)), (wrap64 (x13_2 + 1)), (by first | rfl | (simp; done) | (simp [*]; done)), (by first | rfl | (simp; done) | (simp [*]; done)), (by first | rfl | (simp; done) | (simp [*]; done)), H', ⟨by have := HJ3.out; have := HK2.out; omega⟩, ⟨by (with_reducible repeat (first | apply Kd.R_alloc | apply Kd.R_drewN | apply Kd.R_drew)); exact HO171.out⟩, ⟨by (with_reducible repeat (first | refine blk_drewN ?_ _ | refine blk_drew ?_ | refine blk_alloc ?_ _)); exact BK143.out⟩, ⟨by repeat (first | (with_reducible first | exact HB.out | apply below_alloc | apply pw_below_drewN | apply below_drew1 | refine below_set ?_ GE143.out) | exact HB.out)⟩⟩
                  · rw [if_neg c38] at H
                    exact absurd H (by simp)
                · rw [if_neg c36] at H
                  have c36b0 : ((Int.tmod x12_2 2) == 1) = false := beq_eq_false_iff_ne.mpr c36
                  have c36b1 : ((Int.tmod x12_2 2) != 1) = true := bne_iff_ne.mpr c36
                  by_cases c46 : x6_2.length < 8796093022208
                  · rw [if_pos c46] at H
                    have LMc46 := Aside0.mk c46
                    clear c46
                    obtain ⟨y173, hy173⟩ : ∃ y_ : List ByteArray, y_ = (x6_2 ++ [t166]) := ⟨_, rfl⟩
                    replace H : ((planisphereref01_Sum.f t166).bind fun t176 => (planisphereref02_Checked.l1 k2 y173 t176 (wrap64 (Int.tdiv x12_2 2)) (wrap64 (x13_2 + 1)) a1_0 l1_1 l1_2)) = some r := by first | (rw [hy173]; with_reducible exact H) | (have H2_ := (Option.bind_some _ _).symm.trans H; rw [hy173]; with_reducible exact H2_) | (have H2_ := (Option.bind_some _ _).symm.trans H; with_reducible exact H2_) | with_reducible exact H | (rw [hy173]; exact H) | exact H
                    have Ny173 := Aside0.mk hy173
                    clear hy173
                    replace H := Option.bind_eq_some_iff.mp H
                    obtain ⟨t176, A470, H⟩ := H
                    replace H : (planisphereref02_Checked.l1 k2 y173 t176 (wrap64 (Int.tdiv x12_2 2)) (wrap64 (x13_2 + 1)) a1_0 l1_1 l1_2) = some r := H
                    have A47 := Aside0.mk A470
                    clear A470
                    have H' := Aside0.mk H
                    clear H
                    have hcz48_0 : wr.cell? ⟨gb143, 0, none⟩ = some (.int .i64 a1_0) := (blk_cell BK143.out 0).trans rfl
                    have hcz48_1 : wr.cell? ⟨gb143, 1, none⟩ = some (.slice A1_1 l1_1.length c1_1) := (blk_cell BK143.out 1).trans rfl
                    have hcz48_2 : wr.cell? ⟨gb143, 2, none⟩ = some (.slice A1_2 l1_2.length c1_2) := (blk_cell BK143.out 2).trans rfl
                    have hfz48_0 := blk_frozen BK143.out 0
                    have hfz48_1 := blk_frozen BK143.out 1
                    have hfz48_2 := blk_frozen BK143.out 2
                    have p165 : 0 ≤ (x13_2 : Int) := of_decide_eq_true (by first | (with_reducible assumption) | assumption)
                    have q165 : x13_2 < (l1_2.length : Int) := of_decide_eq_true (by first | (with_reducible assumption) | assumption)
                    obtain ⟨ad165, e165, hx165_0⟩ := Kd.at_string HR1_2.out x13_2 p165 q165
                    cases e165
                    replace hx165_0 := (HB.out.cell (World.block_lt_of_cell? w _ hx165_0)).trans hx165_0
                    replace p165 := eq_true p165
                    replace q165 := eq_true q165
                    go_wp2_with (first | ((with_reducible refine gate_callee (f := 67) rfl ?_); refine goesL_ (some 76) rfl rfl Tryd.func67 (by kernel_rfl) rfl #[.string x11_2, .string (rdOf ByteArray.empty l1_2 x13_2)] rfl (by (try simp only [List.map_toArray, List.map_cons, List.map_nil]); first | done | rfl | (simp only [List.length_drop, List.length_take]; rfl)) ?_; (with_reducible refine (planisphereref02_node.calls x11_2 (rdOf ByteArray.empty l1_2 x13_2) t166 _ A35.out).mono ?_); clear A35; rintro e w49 ⟨rfl, hb⟩; refine ⟨_, rfl, ?_⟩; have n0_ := Aside0.mk (Kd.R_below (by (with_reducible repeat (first | apply Kd.R_alloc | apply Kd.R_drewN | apply Kd.R_drew)); exact HO_6.out) hb); have n1_ := Aside0.mk (blk_below (g := gb143) (o := .cells #[.int .i64 a1_0, .slice A1_1 l1_1.length c1_1, .slice (some ad165) l1_2.length c1_2] 35 (0, 0)) (by (with_reducible repeat (first | refine blk_drewN ?_ _ | refine blk_drew ?_ | refine blk_alloc ?_ _)); exact BK143.out) hb); have n2_ := Aside0.mk (below_step (by repeat (first | (with_reducible first | exact HB.out | apply below_alloc | apply pw_below_drewN | apply below_drew1 | refine below_set ?_ GE143.out) | exact HB.out)) hb); clear HO_6; clear BK143; clear HB; have HO_6 := n0_; have BK143 := n1_; have HB := n2_; clear n0_ n1_ n2_; (try clear hb); (try clear hb2); (try clear hk); (try clear hi)) | ((with_reducible refine gate_builtin (b := .append) (xs := #[.tmp 87, .tmp 89]) rfl ?_); (try (refine gate_guard (by rfl) ?_; dsimp only)); at_builtin; refine Kd.R_append Kd.string (w0 := w) w.heap.size rfl (.tmp 87) (.tmp 89) 22 9 (.string ⟨#[]⟩) 16 rfl Tryd.underlying22 info9 rfl (by decide) (by omega) u6 x6_2 t166 [.string t166] (fun _ => True) (fun _ => False) rfl rfl ?aP (fun _ hk => hk.elim) ?aF ?aO ?aB ?aS ?aL ?_; (case aP => exact rfl); (case aB => exact (by repeat (first | (with_reducible first | exact HB.out | apply below_alloc | apply pw_below_drewN | apply below_drew1 | refine below_set ?_ GE143.out) | exact HB.out))); (case aF => exact (fun _ _ => trivial)); (case aO => exact (by (with_reducible repeat (first | apply Kd.R_alloc | apply Kd.R_drewN | apply Kd.R_drew)); exact HO_6.out)); (case aS => exact (below_size (by repeat (first | (with_reducible first | exact HB.out | apply below_alloc | apply pw_below_drewN | apply below_drew1 | refine below_set ?_ GE143.out) | exact HB.out)))); (case aL => have := LMc46.out; omega); intro v174 w50 ho hb hg hat; rw [← Ny173.out] at ho; have n0_ := Aside0.mk (blk_grown (g := gb143) (o := .cells #[.int .i64 a1_0, .slice A1_1 l1_1.length c1_1, .slice (some ad165) l1_2.length c1_2] 35 (0, 0)) (by (with_reducible repeat (first | refine blk_drewN ?_ _ | refine blk_drew ?_ | refine blk_alloc ?_ _)); exact BK143.out) hg (Kd.R_ne HO_6.out BK143.out (by decide))); have n1_ := Aside0.mk (hb); have n2_ := Aside0.mk (ho); clear BK143; clear HB; clear HO_6; have BK143 := n0_; have HB := n1_; have HO175 := n2_; clear n0_ n1_ n2_; clear ho hb hg hat) | ((with_reducible refine gate_callee (f := 18) rfl ?_); refine goesL_ (some 92) rfl rfl Tryd.func18 (by kernel_rfl) rfl #[.string t166] rfl (by (try simp only [List.map_toArray, List.map_cons, List.map_nil]); first | done | rfl | (simp only [List.length_drop, List.length_take]; rfl)) ?_; (with_reducible refine (planisphereref01_Sum.callsB t166 t176 _ A47.out).mono ?_); clear A47; rintro e w51 ⟨rfl, hb⟩; refine ⟨_, rfl, ?_⟩; have n0_ := Aside0.mk (Kd.R_below (by (with_reducible repeat (first | apply Kd.R_alloc | apply Kd.R_drewN | apply Kd.R_drew)); exact HO175.out) hb); have n1_ := Aside0.mk (blk_below (g := gb143) (o := .cells #[.int .i64 a1_0, .slice A1_1 l1_1.length c1_1, .slice (some ad165) l1_2.length c1_2] 35 (0, 0)) (by (with_reducible repeat (first | refine blk_drewN ?_ _ | refine blk_drew ?_ | refine blk_alloc ?_ _)); exact BK143.out) hb); have n2_ := Aside0.mk (below_step (by repeat (first | (with_reducible first | exact HB.out | apply below_alloc | apply pw_below_drewN | apply below_drew1 | refine below_set ?_ GE143.out) | exact HB.out)) hb); clear HO175; clear BK143; clear HB; have HO175 := n0_; have BK143 := n1_; have HB := n2_; clear n0_ n1_ n2_; (try clear hb); (try clear hb2); (try clear hk); (try clear hi)))
                    go_roundg k2
                    case measure => have := HJ3.out; have := HK2.out; omega
                    case rel => exact ⟨(y173), (t176), (wrap64 (Int.tdiv x12_2 2)), (wrap64 (x13_2 + 1)), (by first | rfl | (simp; done) | (simp [*]; done)), (by first | rfl | (simp; done) | (simp [*]; done)), (by first | rfl | (simp; done) | (simp [*]; done)), H', ⟨by have := HJ3.out; have := HK2.out; omega⟩, ⟨by (with_reducible repeat (first | apply Kd.R_alloc | apply Kd.R_drewN | apply Kd.R_drew)); exact HO175.out⟩, ⟨by (with_reducible repeat (first | refine blk_drewN ?_ _ | refine blk_drew ?_ | refine blk_alloc ?_ _)); exact BK143.out⟩, ⟨by repeat (first | (with_reducible first | exact HB.out | apply below_alloc | apply pw_below_drewN | apply below_drew1 | refine below_set ?_ GE143.out) | exact HB.out)⟩⟩
                  · rw [if_neg c46] at H
                    exact absurd H (by simp)
              · rw [if_neg c34] at H
                exact absurd H (by simp)
            · rw [if_neg c33] at H
              have c33b0 : decide (x13_2 < (l1_2.length : Int)) = false := decide_eq_false c33
              clear c33
              obtain rfl := Option.some.inj H
              have hcz52_0 : wr.cell? ⟨gb143, 0, none⟩ = some (.int .i64 a1_0) := (blk_cell BK143.out 0).trans rfl
              have hcz52_1 : wr.cell? ⟨gb143, 1, none⟩ = some (.slice A1_1 l1_1.length c1_1) := (blk_cell BK143.out 1).trans rfl
              have hcz52_2 : wr.cell? ⟨gb143, 2, none⟩ = some (.slice A1_2 l1_2.length c1_2) := (blk_cell BK143.out 2).trans rfl
              have hfz52_0 := blk_frozen BK143.out 0
              have hfz52_1 := blk_frozen BK143.out 1
              have hfz52_2 := blk_frozen BK143.out 2
              go_wp2
              go_ret
              exact ⟨_, by first | rfl | (simp [errW_none, errW_some] <;> rfl) | (simp [*, errW_none, errW_some] <;> rfl), by (with_reducible repeat (first | apply Kd.R_alloc | apply Kd.R_drewN | apply Kd.R_drew)); exact HO_6.out, by repeat (first | (with_reducible first | exact HB.out | apply below_alloc | apply pw_below_drewN | apply below_drew1 | refine below_set ?_ GE143.out) | exact HB.out)⟩
      · rw [if_neg c26] at H
        exact absurd H (by simp)
end Go.Proofs.YteleheamnighkaaDoor.PCf
end
section
set_option linter.unusedVariables false
set_option linter.unusedSimpArgs false
namespace Go.Proofs.YteleheamnighkaaDoor
open Go.RowKit Go.DoorKit Go.Proofs.YteleheamnighkaaDoorW.PrintWords
def partTo (s : Dig.Txt) (i n : Nat) : Nat → List ByteArray
  | 0 => []
  | k + 1 => partTo s i n k ++ (ofT (Dig.startT s i k) :: chainedB (Dig.start0 s i k) (n + 1))
def keyPart (s : Dig.Txt) (n i : Nat) : List ByteArray := partTo s i n 18 ++ [ofT (Dig.keyT s i)]
def keysTo (s : Dig.Txt) (n : Nat) : Nat → List ByteArray
  | 0 => []
  | i + 1 => keysTo s n i ++ keyPart s n i
def nodesTo (s : Dig.Txt) (j : Nat) : Nat → List ByteArray
  | 0 => []
  | m + 1 => nodesTo s j m ++ [ofT (Dig.nodeT (Dig.tree s j (2 * m)) (Dig.tree s j (2 * m + 1)))]
def levelsTo (s : Dig.Txt) (h : Nat) : Nat → List ByteArray
  | 0 => []
  | j + 1 => levelsTo s h j ++ nodesTo s j (2 ^ (h - 1 - j))
def madeL (s : Dig.Txt) (h n : Nat) : List ByteArray := keysTo s n (2 ^ h) ++ levelsTo s h h
theorem partTo_len (s : Dig.Txt) (i n : Nat) : ∀ k, (partTo s i n k).length = k * (n + 2)
  | 0 => by simp [partTo]
  | k + 1 => by rw [partTo, List.length_append, partTo_len s i n k, List.length_cons, chainedB_len, Nat.succ_mul]
theorem keysTo_len (s : Dig.Txt) (n : Nat) : ∀ i, (keysTo s n i).length = i * (18 * (n + 2) + 1)
  | 0 => by simp [keysTo]
  | i + 1 => by rw [keysTo, List.length_append, keysTo_len s n i, keyPart, List.length_append, partTo_len, List.length_singleton]; exact (Nat.succ_mul i _).symm
theorem nodesTo_len (s : Dig.Txt) (j : Nat) : ∀ m, (nodesTo s j m).length = m
  | 0 => rfl
  | m + 1 => by rw [nodesTo, List.length_append, nodesTo_len s j m]; rfl
theorem levelsTo_len (s : Dig.Txt) (h : Nat) (hh : h ≤ 3) : ∀ j, j ≤ h → (levelsTo s h j).length ≤ j * 8
  | 0, _ => by simp [levelsTo]
  | j + 1, hj => by
    have := levelsTo_len s h hh j (by omega)
    have hp : 2 ^ (h - 1 - j) ≤ 8 := Nat.le_trans (pow_le (show h - 1 - j ≤ 3 by omega)) (by decide)
    rw [levelsTo, List.length_append, nodesTo_len]; omega
theorem startT_need (a0 : ByteArray) {i k : Nat} (h : a0.size ≤ 10000) (hi : i ≤ 100000) (hk : k ≤ 100000) : (ofT (Dig.startT (tx a0) i k)).size ≤ 140737488355328 := by
  rw [size_ofT]
  exact Nat.le_trans (joined_need [a0, ofT (Lib.decDigits i), ofT (Lib.decDigits k)] (start_need a0 h hi hk)) (start_need a0 h hi hk)
theorem keyT_size (s : Dig.Txt) (i : Nat) : (ofT (Dig.keyT s i)).size ≤ 140737488355328 := by
  rw [size_ofT]
  unfold Dig.keyT
  rw [← endsB_tx]
  exact Nat.le_trans (joined_need _ (ends_need s i)) (ends_need s i)
theorem nodeT_size (a b : ByteArray) (ha : a.size ≤ 10000) (hb : b.size ≤ 10000) : (ofT (Dig.nodeT (tx a) (tx b))).size ≤ 140737488355328 := by
  rw [size_ofT]
  exact Nat.le_trans (joined_need [(⟨#[110, 111, 100, 101]⟩ : ByteArray), a, b] (node_need a b ha hb)) (node_need a b ha hb)
theorem chainedB_get (t : Dig.Txt) (n j : Nat) (h : j < n) : (chainedB t n).getD j ByteArray.empty = ofT (Dig.chain t j) := by
  rw [List.getD_eq_getElem?_getD, List.getElem?_eq_getElem (by rw [chainedB_len]; exact h)]
  simp [chainedB]
theorem rChained (t : ByteArray) (n : Nat) (h : t.size ≤ 140737488355328) (hn : n ≤ 1000) : planisphereref02_chained.f t n = some (chainedB (tx t) (n + 1)) := by
  unfold planisphereref02_chained.f; rw [if_pos (Links.mk h (by omega) (by omega)), Int.toNat_natCast]
theorem rNode (a b : ByteArray) (ha : a.size ≤ 10000) (hb : b.size ≤ 10000) : planisphereref02_node.f a b = some (ofT (Dig.nodeT (tx a) (tx b))) := if_pos ⟨ha, hb⟩
theorem emade3 (s : Dig.Txt) (j M : Nat) (hM : M ≤ 8) (out : List ByteArray) (ho : out.length ≤ 100000) {R : List ByteArray}
    (hn : Ev (fun k => PCf.planisphereref02_Made.l2 k (out ++ nodesTo s j M) (lvl s M (j + 1))) R) : ∀ (d m : Nat), m + d = M →
    Ev (fun k => PCf.planisphereref02_Made.l3 k (out ++ nodesTo s j m) (lvl s (2 * M) j) (lvl s m (j + 1)) ((2 * m : Nat) : Int)) R
  | 0, m, hm => by
    obtain rfl : m = M := by omega
    refine Ev.step (fun k => ?_) hn
    have hl : ((lvl s (2 * m) j).length : Int) = ((2 * m : Nat) : Int) := by rw [lvl_len]
    rw [PCf.planisphereref02_Made.l3, wrap_succ (2 * m) (by omega), if_neg (by omega)]
  | d + 1, m, hm => by
    refine Ev.step (fun k => ?_) (emade3 s j M hM out ho hn d (m + 1) (by omega))
    have hl : ((lvl s (2 * M) j).length : Int) = ((2 * M : Nat) : Int) := by rw [lvl_len]
    have hsz : ∀ i, (ofT (Dig.tree s j i)).size ≤ 10000 := fun i => by rw [size_ofT, tree_len]; decide
    have hnl := nodesTo_len s j m
    have hll := lvl_len s m (j + 1)
    rw [PCf.planisphereref02_Made.l3, wrap_succ (2 * m) (by omega), if_pos (by omega), if_pos (by omega), if_pos (by omega), if_pos (by omega)]
    unfold rdOf
    rw [Int.toNat_natCast, Int.toNat_natCast, lvl_get _ _ _ _ (by omega), lvl_get _ _ _ _ (by omega), rNode _ _ (hsz _) (hsz _), Option.bind_some, if_pos (by rw [List.length_append]; omega), Option.bind_some,
      rSum _ (nodeT_size _ _ (hsz _) (hsz _)), Option.bind_some, if_pos (by omega), wrap_two (2 * m) (by omega), lvl_succ, nodesTo, List.append_assoc, tx_ofT, tx_ofT, tx_ofT]
    rfl
theorem emade2 (s : Dig.Txt) (h : Nat) (hh : h ≤ 3) (out : List ByteArray) (ho : out.length ≤ 50000) : ∀ (d j : Nat), j + d = h →
    Ev (fun k => PCf.planisphereref02_Made.l2 k (out ++ levelsTo s h j) (lvl s (2 ^ d) j)) (out ++ levelsTo s h h)
  | 0, j, hj => by
    obtain rfl : j = h := by omega
    have hl : ((lvl s (2 ^ 0) j).length : Int) = 1 := by rw [lvl_len]; rfl
    refine Ev.step (fun k => ?_) (Ev.now _)
    rw [PCf.planisphereref02_Made.l2, if_neg (by omega)]
  | d + 1, j, hj => by
    have ih := emade2 s h hh out ho d (j + 1) (by omega)
    have hp0 := Nat.two_pow_pos d
    have hp8 : 2 ^ d ≤ 8 := Nat.le_trans (pow_le (show d ≤ 3 by omega)) (by decide)
    have hl := lvl_len s (2 ^ (d + 1)) j
    have hp := pow_two_succ d
    have hlv := levelsTo_len s h hh j (by omega)
    have e : h - 1 - j = d := by omega
    rw [levelsTo, e, ← List.append_assoc] at ih
    have h3 := emade3 s j (2 ^ d) hp8 (out ++ levelsTo s h j) (by rw [List.length_append]; omega) ih (2 ^ d) 0 (by omega)
    rw [nodesTo, List.append_nil] at h3
    refine Ev.step (fun k => ?_) h3
    rw [PCf.planisphereref02_Made.l2, if_pos (by omega), hp]
    rfl
theorem emade1 (a0 : ByteArray) (hs : a0.size ≤ 10000) (h n i : Nat) (hn : 15 ≤ n) (hn2 : n ≤ 100) (hi : i ≤ 100) (out lev : List ByteArray) (ho : out.length ≤ 100000) (hlev : lev.length ≤ 1000) {R : List ByteArray}
    (hnext : Ev (fun k => PCf.planisphereref02_Made.l0 k a0 h n (out ++ keyPart (tx a0) n i) (lev ++ [ofT (Dig.tree (tx a0) 0 i)]) ((i + 1 : Nat) : Int)) R) : ∀ (d j : Nat), j + d = 18 →
    Ev (fun k => PCf.planisphereref02_Made.l1 k a0 h n (out ++ partTo (tx a0) i n j) lev i (endsB (tx a0) i j) j) R
  | 0, j, hj => by
    obtain rfl : j = 18 := by omega
    refine Ev.step (fun k => ?_) hnext
    have hp := partTo_len (tx a0) i n 18
    have hk : planisphereref01_Joined.f (endsB (tx a0) i 18) = some (ofT (Dig.keyT (tx a0) i)) := by
      rw [rJoined _ (ends_need _ _), endsB_tx]; rfl
    rw [PCf.planisphereref02_Made.l1, if_neg (by omega), hk, Option.bind_some, if_pos (by rw [List.length_append, hp]; omega), rSum _ (keyT_size _ _), Option.bind_some, if_pos (by omega), wrap_succ i (by omega), List.append_assoc, tx_ofT]
    rfl
  | d + 1, j, hj => by
    have hp := partTo_len (tx a0) i n j
    have hjn : j * (n + 2) ≤ 18 * (100 + 2) := Nat.mul_le_mul (by omega) (by omega)
    refine Ev.step (fun k => ?_) (emade1 a0 hs h n i hn hn2 hi out lev ho hlev hnext d (j + 1) (by omega))
    have hJ : planisphereref01_Joined.f [a0, ofT (Lib.decDigits i), ofT (Lib.decDigits j)] = some (ofT (Dig.startT (tx a0) i j)) := rJoined _ (start_need a0 hs (by omega) (by omega))
    have hcl := chainedB_len (Dig.start0 (tx a0) i j) (n + 1)
    have hC : planisphereref02_chained.f (ofT (Dig.sum (tx (ofT (Dig.startT (tx a0) i j))))) n = some (chainedB (Dig.start0 (tx a0) i j) (n + 1)) := by
      rw [rChained _ _ (sum_big _) (by omega), tx_ofT, tx_ofT]; rfl
    have hg : rdOf ByteArray.empty (chainedB (Dig.start0 (tx a0) i j) (n + 1)) 15 = ofT (Dig.chain (Dig.start0 (tx a0) i j) 15) := by
      unfold rdOf
      exact chainedB_get _ _ 15 (by omega)
    rw [PCf.planisphereref02_Made.l1, if_pos (by omega), rDec (by omega), Option.bind_some, rDec (by omega), Option.bind_some, hJ, Option.bind_some, if_pos (by rw [List.length_append, hp]; omega), Option.bind_some,
      rSum _ (startT_need a0 hs (by omega) (by omega)), Option.bind_some, hC, Option.bind_some, if_pos (by rw [List.length_append, List.length_append, hp, hcl, List.length_singleton]; omega), if_pos (by rw [hcl]; omega), if_pos (by rw [endsB_len]; omega), hg, wrap_succ j (by omega), endsB_succ, partTo,
      List.append_assoc, List.append_assoc]
    rfl
theorem emade0 (a0 : ByteArray) (hs : a0.size ≤ 10000) (h n : Nat) (hh : h ≤ 3) (hn : 15 ≤ n) (hn2 : n ≤ 100) : ∀ (d i : Nat), i + d = 2 ^ h →
    Ev (fun k => PCf.planisphereref02_Made.l0 k a0 h n (keysTo (tx a0) n i) (lvl (tx a0) i 0) i) (madeL (tx a0) h n) := by
  have hp8 : 2 ^ h ≤ 8 := Nat.le_trans (pow_le hh) (by decide)
  have hpw := rPower h (by omega)
  have hfin : Ev (fun k => PCf.planisphereref02_Made.l2 k (keysTo (tx a0) n (2 ^ h)) (lvl (tx a0) (2 ^ h) 0)) (madeL (tx a0) h n) := by
    have hkl := keysTo_len (tx a0) n (2 ^ h)
    have hb : 2 ^ h * (18 * (n + 2) + 1) ≤ 8 * (18 * 102 + 1) := Nat.mul_le_mul hp8 (by omega)
    have := emade2 (tx a0) h hh (keysTo (tx a0) n (2 ^ h)) (by omega) h 0 (by omega)
    rw [levelsTo, List.append_nil] at this
    exact this
  unfold madeL at hfin ⊢
  generalize 2 ^ h = P at *
  intro d
  induction d with
  | zero =>
    intro i hi
    obtain rfl : i = P := by omega
    refine Ev.step (fun k => ?_) hfin
    rw [PCf.planisphereref02_Made.l0, hpw, Option.bind_some, if_neg (by omega)]
  | succ d ih =>
    intro i hi
    have hkl := keysTo_len (tx a0) n i
    have hb : i * (18 * (n + 2) + 1) ≤ 8 * (18 * 102 + 1) := Nat.mul_le_mul (by omega) (by omega)
    have h2 := ih (i + 1) (by omega)
    rw [keysTo, lvl_succ] at h2
    have h1 := emade1 a0 hs h n i hn hn2 (by omega) (keysTo (tx a0) n i) (lvl (tx a0) i 0) (by omega) (by rw [lvl_len]; omega) h2 18 0 rfl
    rw [partTo, List.append_nil] at h1
    refine Ev.step (fun k => ?_) h1
    rw [PCf.planisphereref02_Made.l0, hpw, Option.bind_some, if_pos (by omega)]
    rfl
def madeIn (a0 : ByteArray) (a1 a2 : Int) : Prop := Small a0.size ∧ 0 ≤ a1 ∧ a1 ≤ 3 ∧ 15 ≤ a2 ∧ a2 ≤ 100
instance (a0 : ByteArray) (a1 a2 : Int) : Decidable (madeIn a0 a1 a2) := inferInstanceAs (Decidable (Small a0.size ∧ 0 ≤ a1 ∧ a1 ≤ 3 ∧ 15 ≤ a2 ∧ a2 ≤ 100))
def planisphereref02_Made.f (a0 : ByteArray) (a1 a2 : Int) : Option (List ByteArray) := if madeIn a0 a1 a2 then some (madeL (tx a0) a1.toNat a2.toNat) else none
theorem planisphereref02_Made.calls (a0 : ByteArray) (a1 : Int) (a2 : Int) (r : List ByteArray) (w : World) (h : planisphereref02_Made.f a0 a1 a2 = some r) :
    Calls Tryd.prog 36 #[.string a0, .int .i64 a1, .int .i64 a2] w fun e w' => ∃ v0_ : Value, e = .returned (v0_) ∧ Kd.R Kd.string 9 w' w.heap.size (fun _ => True) v0_ r ∧ Below w.heap.size w w' := by
  obtain ⟨⟨hs, h1, h2, h3, h4⟩, rfl⟩ := if_out h
  obtain ⟨m, rfl⟩ := Int.eq_ofNat_of_zero_le h1
  obtain ⟨n, rfl⟩ := Int.eq_ofNat_of_zero_le (show 0 ≤ a2 by omega)
  obtain ⟨k, hk⟩ := (emade0 a0 hs m n (by omega) (by omega) (by omega) (2 ^ m) 0 (by omega)).rounds
  exact PCf.planisphereref02_Made.calls k a0 m n _ w hk
def chkTo (l : List ByteArray) (m : Dig.Txt) : Nat → List ByteArray
  | 0 => []
  | j + 1 => chkTo l m j ++ chainedB (tx (l.getD j ByteArray.empty)) (15 - dAt m j + 1)
theorem chkTo_len (l : List ByteArray) (m : Dig.Txt) : ∀ j, (chkTo l m j).length ≤ j * 16
  | 0 => Nat.le_refl _
  | j + 1 => by have := chkTo_len l m j; rw [chkTo, List.length_append, chainedB_len, Nat.succ_mul]; omega
def checkedL (m : Dig.Txt) (i : Nat) (l1 l2 : List ByteArray) : List ByteArray :=
  chkTo l1 m 18 ++ [ofT (Dig.joined ((endsL l1 m).map tx))] ++ (Dig.climbT (Dig.lst ((endsL l1 m).map tx)) i (l2.map tx)).map ofT
theorem stepT_eq (X p : Dig.Txt) (x : Nat) : Dig.stepT X p x = if x % 2 = 1 then Dig.nodeT p X else Dig.nodeT X p := rfl
theorem echk1 (i0 : Int) (l1 l2 : List ByteArray) (hz : ∀ s ∈ l2, s.size ≤ 10000) (hl : l2.length ≤ 100) : ∀ (d j : Nat) (X : Dig.Txt) (x : Nat) (out : List ByteArray), j + d = l2.length → X.length = 16 → x ≤ 4000 → out.length ≤ 10000 + j →
    Ev (fun k => PCf.planisphereref02_Checked.l1 k out (ofT X) x j i0 l1 l2) (out ++ (Dig.climbT X x ((l2.drop j).map tx)).map ofT)
  | 0, j, X, x, out, hj, hX, hx, ho => by
    obtain rfl : j = l2.length := by omega
    rw [List.drop_length, List.map_nil, Dig.climbT, List.map_nil, List.append_nil]
    refine Ev.step (fun k => ?_) (Ev.now _)
    rw [PCf.planisphereref02_Checked.l1, if_neg (by omega)]
  | d + 1, j, X, x, out, hj, hX, hx, ho => by
    have hlt : j < l2.length := by omega
    have hs := hz _ (getD_mem hlt)
    have hXs : (ofT X).size ≤ 10000 := by rw [size_ofT, hX]; decide
    have ih := echk1 i0 l1 l2 hz hl d (j + 1) (Dig.sum (Dig.stepT X (tx (l2.getD j ByteArray.empty)) x)) (x / 2) (out ++ [ofT (Dig.stepT X (tx (l2.getD j ByteArray.empty)) x)]) (by omega) (Dig.sum_len _) (by omega) (by simp; omega)
    rw [List.append_assoc] at ih
    rw [drop_one hlt, List.map_cons, Dig.climbT, List.map_cons]
    refine Ev.step (fun k => ?_) ih
    rw [PCf.planisphereref02_Checked.l1, if_pos (by omega), if_pos (by omega)]
    unfold rdOf
    rw [Int.toNat_natCast, rNode _ _ hXs hs, Option.bind_some, tmod2, tdiv2 x hx, wrap_succ j (by omega)]
    by_cases h1 : x % 2 = 1
    · rw [if_pos (by omega), rNode _ _ hs hXs, Option.bind_some, if_pos (by omega), rSum _ (nodeT_size _ _ hs hXs), Option.bind_some, stepT_eq, if_pos h1, tx_ofT, tx_ofT]
    · rw [if_neg (by omega), if_pos (by omega), rSum _ (nodeT_size _ _ hXs hs), Option.bind_some, stepT_eq, if_neg h1, tx_ofT, tx_ofT]
theorem echk0 (a0 : ByteArray) (i0 : Nat) (hi0 : i0 ≤ 4000) (l1 l2 : List ByteArray) (h1 : l1.length = 18) (hz1 : ∀ s ∈ l1, s.size ≤ 100) (hz : ∀ s ∈ l2, s.size ≤ 10000) (hl : l2.length ≤ 100) : ∀ (d j : Nat), j + d = 18 →
    Ev (fun k => PCf.planisphereref02_Checked.l0 k (ints (Dig.digits (tx a0))) (chkTo l1 (tx a0) j) (endsTo l1 (tx a0) j) j i0 l1 l2) (checkedL (tx a0) i0 l1 l2)
  | 0, j, hj => by
    obtain rfl : j = 18 := by omega
    have hE : need (endsL l1 (tx a0)) ≤ 140737488355328 := by
      refine need_all 100 18 ?_ (by rw [endsL_len]; exact Nat.le_refl _) (by decide)
      intro s hs
      simp only [endsL, List.mem_map] at hs
      obtain ⟨j, _, rfl⟩ := hs
      unfold endAt
      rw [size_ofT]
      exact chain_len' (by rw [tx_len]; exact hz1 _ (getD_mem (by have := j.isLt; omega)))
    have hcl := chkTo_len l1 (tx a0) 18
    have h2 := echk1 i0 l1 l2 hz hl l2.length 0 (Dig.lst ((endsL l1 (tx a0)).map tx)) i0 (chkTo l1 (tx a0) 18 ++ [ofT (Dig.joined ((endsL l1 (tx a0)).map tx))]) (by omega) (Dig.sum_len _) hi0 (by simp; omega)
    rw [List.drop_zero] at h2
    refine Ev.step (f := fun k => PCf.planisphereref02_Checked.j1 k (chkTo l1 (tx a0) 18) (endsTo l1 (tx a0) 18) i0 l1 l2) (fun k => ?_) (Ev.step (fun k => ?_) h2)
    · rw [PCf.planisphereref02_Checked.l0, if_neg (by omega)]
    · rw [PCf.planisphereref02_Checked.j1, endsTo_all, rJoined _ hE, Option.bind_some, if_pos (by omega), rSum _ ?_, Option.bind_some, tx_ofT]
      · rfl
      · rw [size_ofT]; exact Nat.le_trans (joined_need _ hE) hE
  | d + 1, j, hj => by
    have hlt : j < l1.length := by omega
    have hs := hz1 _ (getD_mem hlt)
    have hdl : ((ints (Dig.digits (tx a0))).length : Int) = 18 := by rw [ints_len, digits_len]; rfl
    have hcl := chkTo_len l1 (tx a0) j
    have hch := chainedB_len (tx (l1.getD j ByteArray.empty)) (15 - dAt (tx a0) j + 1)
    have ih := echk0 a0 i0 hi0 l1 l2 h1 hz1 hz hl d (j + 1) (by omega)
    rw [endsTo_succ, chkTo] at ih
    refine Ev.step (fun k => ?_) ih
    have hr : ∀ L : List ByteArray, rdOf ByteArray.empty L (j : Int) = L.getD j ByteArray.empty := fun L => by unfold rdOf; rw [Int.toNat_natCast]
    have hg : rdOf ByteArray.empty (chainedB (tx (l1.getD j ByteArray.empty)) (15 - dAt (tx a0) j + 1)) ((15 - dAt (tx a0) j : Nat) : Int) = endAt l1 (tx a0) j := by
      unfold rdOf
      rw [Int.toNat_natCast, chainedB_get _ _ _ (by omega)]; rfl
    rw [PCf.planisphereref02_Checked.l0, if_pos (by omega), if_pos (by omega), if_pos (by omega), if_pos (by omega), rd_digits _ _ (by omega), wrap_sub15 _ (dAt_le _ _), hr, rChained _ _ (by omega) (by omega), Option.bind_some,
      if_pos (by rw [hch]; omega), if_pos (by omega), if_pos (by rw [hch]; omega), if_pos (by rw [endsTo_len]; omega), hg, wrap_succ j (by omega)]
def chkIn (a0 : ByteArray) (i : Int) (l1 l2 : List ByteArray) : Prop := Big a0.size ∧ 0 ≤ i ∧ i ≤ 4000 ∧ l1.length = 18 ∧ (∀ s ∈ l1, s.size ≤ 100) ∧ (∀ s ∈ l2, s.size ≤ 10000) ∧ l2.length ≤ 100
instance (a0 : ByteArray) (i : Int) (l1 l2 : List ByteArray) : Decidable (chkIn a0 i l1 l2) := inferInstanceAs (Decidable (Big a0.size ∧ 0 ≤ i ∧ i ≤ 4000 ∧ l1.length = 18 ∧ (∀ s ∈ l1, s.size ≤ 100) ∧ (∀ s ∈ l2, s.size ≤ 10000) ∧ l2.length ≤ 100))
def planisphereref02_Checked.f (a0 : ByteArray) (a1_0 : Int) (l1_1 l1_2 : List ByteArray) : Option (List ByteArray) := if chkIn a0 a1_0 l1_1 l1_2 then some (checkedL (tx a0) a1_0.toNat l1_1 l1_2) else none
theorem planisphereref02_Checked.calls (a0 : ByteArray) (a1_0 : Int) (A1_1 : Option Addr) (c1_1 : Nat) (l1_1 : List ByteArray) (A1_2 : Option Addr) (c1_2 : Nat) (l1_2 : List ByteArray) (r : List ByteArray) (w : World) (hr1_1 : Kd.C Kd.string w A1_1 l1_1.length l1_1) (hc1_1 : l1_1.length ≤ c1_1) (hr1_2 : Kd.C Kd.string w A1_2 l1_2.length l1_2) (hc1_2 : l1_2.length ≤ c1_2) (h : planisphereref02_Checked.f a0 a1_0 l1_1 l1_2 = some r) :
    Calls Tryd.prog 37 #[.string a0, .agg #[.int .i64 a1_0, .slice A1_1 l1_1.length c1_1, .slice A1_2 l1_2.length c1_2]] w fun e w' => ∃ v0_ : Value, e = .returned (v0_) ∧ Kd.R Kd.string 9 w' w.heap.size (fun _ => True) v0_ r ∧ Below w.heap.size w w' := by
  obtain ⟨⟨hm, h0, hi, h1, hz1, hz2, hl2⟩, rfl⟩ := if_out h
  obtain ⟨i, rfl⟩ := Int.eq_ofNat_of_zero_le h0
  obtain ⟨k, hk⟩ := (echk0 a0 i (by omega) l1_1 l1_2 h1 hz1 hz2 hl2 18 0 rfl).rounds
  refine PCf.planisphereref02_Checked.calls k a0 i A1_1 c1_1 l1_1 A1_2 c1_2 l1_2 _ w hr1_1 hc1_1 hr1_2 hc1_2 ?_
  unfold PCf.planisphereref02_Checked.f
  have hd : planisphereref02_Digits.f a0 = some (ints (Dig.digits (tx a0))) := if_pos hm
  rw [hd, Option.bind_some, Int.toNat_natCast]
  exact hk
end Go.Proofs.YteleheamnighkaaDoor
end
section
set_option linter.unusedVariables false
set_option linter.unusedSimpArgs false
namespace Go.Proofs.YteleheamnighkaaDoor
open Go.RowKit Go.DoorKit Go.Proofs.YteleheamnighkaaDoorW.PrintWords
theorem isD_sum (t : Dig.Txt) : Dig.isD (Dig.sum t) = true := by
  unfold Dig.isD
  rw [Dig.sum_len, List.all_eq_true.2 (Pure.sum_hex t)]; rfl
theorem isD_chain {t : Dig.Txt} (h : Dig.isD t = true) : ∀ n, Dig.isD (Dig.chain t n) = true
  | 0 => h
  | n + 1 => isD_sum _
theorem isD_tree (s : Dig.Txt) : ∀ j m, Dig.isD (Dig.tree s j m) = true
  | 0, _ => isD_sum _
  | _ + 1, _ => isD_sum _
theorem sig_odd (s : Dig.Txt) (i : Nat) (m : Dig.Txt) : oddB (sigL s i m) = false := by
  unfold oddB
  rw [List.any_eq_false]
  intro t ht
  simp only [sigL, List.mem_map] at ht
  obtain ⟨j, _, rfl⟩ := ht
  unfold sigAt
  rw [tx_ofT, isD_chain (t := Dig.start0 s i j) (isD_sum _)]; decide
theorem path_odd (s : Dig.Txt) (i h : Nat) : oddB (pathL s i h) = false := by
  unfold oddB
  rw [List.any_eq_false]
  intro t ht
  simp only [pathL, List.mem_map] at ht
  obtain ⟨j, _, rfl⟩ := ht
  rw [tx_ofT, isD_tree]; decide
theorem sig_get (s : Dig.Txt) (i : Nat) (m : Dig.Txt) (j : Nat) (h : j < 18) : (sigL s i m).getD j ByteArray.empty = sigAt s i m j := by
  rw [← sigTo_all]
  unfold sigTo
  rw [List.getD_eq_getElem?_getD, List.getElem?_map, List.getElem?_range h]; rfl
theorem ends_sig (s : Dig.Txt) (i : Nat) (m : Dig.Txt) : endsL (sigL s i m) m = endsB s i 18 := by
  rw [← endsTo_all]
  unfold endsTo endsB
  apply List.map_congr_left
  intro j hj
  have hj := List.mem_range.1 hj
  unfold endAt
  rw [sig_get s i m j hj]
  unfold sigAt
  rw [tx_ofT, Dig.chain_add]
  have := dAt_le m j
  rw [show dAt m j + (15 - dAt m j) = 15 by omega]
theorem step_tree (s : Dig.Txt) (n q : Nat) : Dig.sum (Dig.stepT (Dig.tree s n q) (Dig.tree s n (Dig.sib q)) q) = Dig.tree s (n + 1) (q / 2) := by
  unfold Dig.stepT Dig.sib
  by_cases h : q % 2 = 1
  · rw [if_pos h, if_neg (by omega), Dig.tree, show 2 * (q / 2) + 1 = q by omega, show 2 * (q / 2) = q - 1 by omega]
  · rw [if_neg h, if_pos (by omega), Dig.tree, show 2 * (q / 2) = q by omega]
theorem climb_path (s : Dig.Txt) (i : Nat) : ∀ n, Dig.climb (Dig.tree s 0 i) i ((pathL s i n).map tx) = Dig.tree s n (i / 2 ^ n)
  | 0 => by
    have : pathL s i 0 = [] := rfl
    rw [this, List.map_nil, Dig.climb, Nat.pow_zero, Nat.div_one]
  | n + 1 => by
    rw [pathL_succ, List.map_append, List.map_cons, List.map_nil, Dig.climb_snoc, climb_path s i n, List.length_map, pathL_len, tx_ofT, step_tree, Nat.pow_succ, ← Nat.div_div_eq_div_mul]
theorem climb_sig (s : Dig.Txt) (h i : Nat) (msg : ByteArray) (hi : i < 2 ^ h) : Dig.climb (Dig.lst ((endsL (sigL s i (tx msg)) (tx msg)).map tx)) i ((pathL s i h).map tx) = Dig.tree s h 0 := by
  rw [ends_sig, endsB_tx]
  have := climb_path s i h
  rw [Nat.div_eq_of_lt hi] at this
  exact this
theorem ver_sig (s : Dig.Txt) (h i : Nat) (msg : ByteArray) (hh : h ≤ 8) (hi : i < 2 ^ h) (r : ByteArray) : verR r msg i (sigL s i (tx msg)) (pathL s i h) = decide (r = ofT (Dig.tree s h 0)) := by
  unfold verR
  have hp : (pathL s i h).length = h := pathL_len s i h
  rw [if_pos ⟨sigL_len _ _ _, by omega, sig_odd _ _ _, path_odd _ _ _, by omega, by rw [hp]; exact_mod_cast hi⟩, Int.toNat_natCast]
  unfold climbB
  rw [climb_sig s h i msg hi]
  by_cases hr : r = ofT (Dig.tree s h 0)
  · rw [hr, decide_eq_true rfl]; exact beq_self_eq_true _
  · rw [decide_eq_false hr]
    exact beq_eq_false_iff_ne.mpr (fun e => hr (toList_eq.1 e).symm)
theorem sigL_big (s : Dig.Txt) (i : Nat) (m : Dig.Txt) : ∀ x ∈ sigL s i m, x.size = 16 := oddB_size (sig_odd s i m)
theorem pathL_big (s : Dig.Txt) (i h : Nat) : ∀ x ∈ pathL s i h, x.size = 16 := oddB_size (path_odd s i h)
theorem verIn_small {msg : ByteArray} {l1 l2 : List ByteArray} (hm : msg.size ≤ 300) (h1 : ∀ x ∈ l1, x.size ≤ 1000) (h2 : ∀ x ∈ l2, x.size ≤ 1000) (n1 : l1.length ≤ 100) (n2 : l2.length ≤ 100) : verIn msg l1 l2 :=
  ⟨Nat.le_trans hm (by decide), fun s hs => Nat.le_trans (h1 s hs) (by decide), fun s hs => Nat.le_trans (h2 s hs) (by decide), by omega, by omega⟩
end Go.Proofs.YteleheamnighkaaDoor
end
section
set_option linter.unusedVariables false
set_option linter.unusedSimpArgs false
namespace Go.Proofs.YteleheamnighkaaDoor
open Go.RowKit Go.DoorKit Go.Proofs.YteleheamnighkaaDoorW.PrintWords
def sec : ByteArray := ⟨#[115, 101, 99, 114, 101, 116]⟩
def mes : ByteArray := ⟨#[109, 101, 115, 115, 97, 103, 101]⟩
theorem hd_p2 (w : World) (hG : Glob w) : Calls Tryd.prog 28 #[.string ⟨#[115, 101, 99, 114, 101, 116]⟩, .int .i64 2] w fun e w' => e = .returned (.tuple #[.string (ofT (Dig.tree (tx sec) 2 0)), .int .i64 0]) ∧ Below w.heap.size w w' :=
  seal_Public.calls sec 2 _ _ w (if_pos (by decide)) hG
theorem hd_p9 (w : World) (hG : Glob w) : Calls Tryd.prog 28 #[.string ⟨#[115, 101, 99, 114, 101, 116]⟩, .int .i64 9] w fun e w' => e = .returned (.tuple #[.string ⟨#[]⟩, .int .i64 1]) ∧ Below w.heap.size w w' :=
  seal_Public.calls sec 9 _ _ w (if_pos (by decide)) hG
def SignOut (w : World) (i : Int) (s p : List ByteArray) (er : Int) (e : Ending) (w' : World) : Prop :=
  ∃ (A1 A2 : Option Addr) (c1 c2 : Nat), e = .returned (.tuple #[.agg #[.int .i64 i, .slice A1 s.length c1, .slice A2 p.length c2], .int .i64 er]) ∧ Kd.C Kd.string w' A1 s.length s ∧ s.length ≤ c1 ∧ Kd.C Kd.string w' A2 p.length p ∧ p.length ≤ c2 ∧ Below w.heap.size w w' ∧ (0 < s.length → ∃ g, A1 = some ⟨g, 0, none⟩)
theorem sign_out {w : World} {f : FuncId} {args : Array Value} {i : Int} {s p : List ByteArray} {er : Int}
    (h : Calls Tryd.prog f args w fun e w' => ∃ v1_ v2_ : Value, e = .returned (.tuple #[.agg #[.int .i64 i, v1_, v2_], .int .i64 er]) ∧ Kd.R Kd.string 9 w' w.heap.size (fun k_ => some k_ ≠ (v2_ : Value).ownBlock) v1_ s ∧ Kd.R Kd.string 9 w' w.heap.size (fun k_ => some k_ ≠ (v1_ : Value).ownBlock) v2_ p ∧ Below w.heap.size w w') :
    Calls Tryd.prog f args w fun e w' => SignOut w i s p er e w' := by
  refine h.mono ?_
  rintro e w' ⟨v1, v2, rfl, h1, h2, hb⟩
  obtain ⟨A1, c1, rfl, hc1, hC1⟩ := Kd.R_reads h1
  obtain ⟨A2, c2, rfl, hc2, hC2⟩ := Kd.R_reads h2
  refine ⟨A1, A2, c1, c2, rfl, hC1, hc1, hC2, hc2, hb, fun hp => ?_⟩
  obtain ⟨g, cap, he, _⟩ := Kd.R_form h1 hp
  injection he with e1 e2 e3
  exact ⟨g, e1⟩
theorem hd_s3 (w : World) (hG : Glob w) : Calls Tryd.prog 30 #[.string ⟨#[115, 101, 99, 114, 101, 116]⟩, .int .i64 2, .int .i64 3, .string ⟨#[109, 101, 115, 115, 97, 103, 101]⟩] w fun e w' => SignOut w 3 (sigL (tx sec) 3 (tx mes)) (pathL (tx sec) 3 2) 0 e w' :=
  sign_out (seal_Sign.calls sec 2 3 mes _ _ _ _ w (if_pos (by decide)) hG)
theorem hd_s4 (w : World) (hG : Glob w) : Calls Tryd.prog 30 #[.string ⟨#[115, 101, 99, 114, 101, 116]⟩, .int .i64 2, .int .i64 4, .string ⟨#[109, 101, 115, 115, 97, 103, 101]⟩] w fun e w' => SignOut w 0 [] [] 1 e w' :=
  sign_out (seal_Sign.calls sec 2 4 mes _ _ _ _ w (if_pos (by decide)) hG)
theorem hd_v1 (w : World) (hG : Glob w) (A1 A2 : Option Addr) (c1 c2 : Nat) (s p : List ByteArray) (hs : s = sigL (tx sec) 3 (tx mes)) (hp : p = pathL (tx sec) 3 2) (h1 : Kd.C Kd.string w A1 s.length s) (h2 : s.length ≤ c1) (h3 : Kd.C Kd.string w A2 p.length p) (h4 : p.length ≤ c2) :
    Calls Tryd.prog 33 #[.string (ofT (Dig.tree (tx sec) 2 0)), .string ⟨#[109, 101, 115, 115, 97, 103, 101]⟩, .agg #[.int .i64 3, .slice A1 s.length c1, .slice A2 p.length c2]] w fun e w' => e = .returned (.bool true) ∧ Below w.heap.size w w' := by
  subst hs hp
  refine seal_Verify.calls _ mes 3 A1 c1 _ A2 c2 _ true w h1 h2 h3 h4 ?_ hG
  unfold seal_Verify.f
  rw [if_pos (verIn_small (by decide) (fun x hx => by rw [sigL_big _ _ _ x hx]; decide) (fun x hx => by rw [pathL_big _ _ _ x hx]; decide) (by rw [sigL_len]; decide) (by rw [pathL_len]; decide))]
  have := ver_sig (tx sec) 2 3 mes (by decide) (by decide) (ofT (Dig.tree (tx sec) 2 0))
  rw [decide_eq_true rfl] at this
  exact congrArg some this
theorem hd_v4 (w : World) (hG : Glob w) (A1 A2 : Option Addr) (c1 c2 : Nat) (s p : List ByteArray) (hs : s = sigL (tx sec) 3 (tx mes)) (hp : p = pathL (tx sec) 3 2) (h1 : Kd.C Kd.string w A1 s.length s) (h2 : s.length ≤ c1) (h3 : Kd.C Kd.string w A2 p.length p) (h4 : p.length ≤ c2) :
    Calls Tryd.prog 33 #[.string ⟨#[]⟩, .string ⟨#[109, 101, 115, 115, 97, 103, 101]⟩, .agg #[.int .i64 3, .slice A1 s.length c1, .slice A2 p.length c2]] w fun e w' => e = .returned (.bool false) ∧ Below w.heap.size w w' := by
  subst hs hp
  refine seal_Verify.calls _ mes 3 A1 c1 _ A2 c2 _ false w h1 h2 h3 h4 ?_ hG
  unfold seal_Verify.f
  rw [if_pos (verIn_small (by decide) (fun x hx => by rw [sigL_big _ _ _ x hx]; decide) (fun x hx => by rw [pathL_big _ _ _ x hx]; decide) (by rw [sigL_len]; decide) (by rw [pathL_len]; decide))]
  have := ver_sig (tx sec) 2 3 mes (by decide) (by decide) ⟨#[]⟩
  rw [decide_eq_false] at this
  · exact congrArg some this
  · intro e
    have h5 := congrArg ByteArray.size e
    rw [size_ofT, tree_len] at h5
    exact absurd h5 (by decide)
theorem ver_no {a0 msg : ByteArray} {i : Int} {l1 l2 : List ByteArray} (h : ¬ verOk i l1 l2) : verR a0 msg i l1 l2 = false := if_neg h
theorem hd_vn (w : World) (hG : Glob w) (r : ByteArray) (A1 A2 : Option Addr) (c1 c2 : Nat) (s p : List ByteArray) (hn : ¬ verOk 3 s p) (hs : ∀ x ∈ s, x.size = 16) (hp : ∀ x ∈ p, x.size = 16) (n1 : s.length ≤ 100) (n2 : p.length ≤ 100) (h1 : Kd.C Kd.string w A1 s.length s) (h2 : s.length ≤ c1) (h3 : Kd.C Kd.string w A2 p.length p) (h4 : p.length ≤ c2) :
    Calls Tryd.prog 33 #[.string r, .string ⟨#[109, 101, 115, 115, 97, 103, 101]⟩, .agg #[.int .i64 3, .slice A1 s.length c1, .slice A2 p.length c2]] w fun e w' => e = .returned (.bool false) ∧ Below w.heap.size w w' := by
  refine seal_Verify.calls _ mes 3 A1 c1 _ A2 c2 _ false w h1 h2 h3 h4 ?_ hG
  unfold seal_Verify.f
  rw [if_pos (verIn_small (by decide) (fun x hx => by rw [hs x hx]; decide) (fun x hx => by rw [hp x hx]; decide) n1 n2), ver_no hn]
set_option maxRecDepth 100000 in
set_option maxHeartbeats 4000000 in
theorem planispherelaw02_head_calls (w : World) (hG : Glob w) : Calls Tryd.prog 25 #[] w fun e w' => e = .returned (.bool true) ∧ Below w.heap.size w w' := by
  obtain ⟨s, hs⟩ : ∃ s, s = sigL (tx sec) 3 (tx mes) := ⟨_, rfl⟩
  obtain ⟨p, hp⟩ : ∃ p, p = pathL (tx sec) 3 2 := ⟨_, rfl⟩
  have hsl : s.length = 18 := by rw [hs, sigL_len]
  have hpl : p.length = 2 := by rw [hp, pathL_len]
  obtain ⟨R, hR⟩ : ∃ R, R = ofT (Dig.tree (tx sec) 2 0) := ⟨_, rfl⟩
  have P2 := Lib.hid (fun w hG => hd_p2 w hG)
  have S3 := Lib.hid (fun w hG => hd_s3 w hG)
  rw [← hR] at P2
  rw [← hs, ← hp] at S3
  have HH := Lib.hid (And.intro hs (And.intro hp (And.intro hsl (And.intro hpl hR))))
  clear hs hp hsl hpl hR
  go_enter Tryd.func25, Tryd.ntmps25
  go_upto_region 4 with (first | (go_at_call 28; ((with_reducible refine (P2.out w hG).mono ?_); rintro e w1 ⟨rfl, b1⟩)) | (go_at_call 28; ((with_reducible refine (hd_p9 w1 (Glob.below hG b1)).mono ?_); rintro e w2 ⟨rfl, b2⟩; have B2 := b1.trans (b2.mono b1.size); clear b1 b2)) | (go_at_call 30; ((with_reducible refine (S3.out w2 (Glob.below hG B2)).mono ?_); rintro e w3 ⟨A1, A2, c1, c2, rfl, hC1, hc1, hC2, hc2, b3, hA1⟩; obtain ⟨g1, rfl⟩ := hA1 (by have := HH.out.2.2.1; omega); clear hA1; have B3 := B2.trans (b3.mono B2.size); clear B2 b3)))
  have K5 := blk_new w3 (.cells #[.int .i64 3, .slice (some ⟨g1, 0, none⟩) s.length c1, .slice A2 p.length c2] 35)
  replace hC1 := Kd.C_alloc hC1 (.cells #[.int .i64 3, .slice (some ⟨g1, 0, none⟩) s.length c1, .slice A2 p.length c2] 35)
  replace hC2 := Kd.C_alloc hC2 (.cells #[.int .i64 3, .slice (some ⟨g1, 0, none⟩) s.length c1, .slice A2 p.length c2] 35)
  have B4 := below_alloc B3 (.cells #[.int .i64 3, .slice (some ⟨g1, 0, none⟩) s.length c1, .slice A2 p.length c2] 35)
  have hg5 : w.heap.size ≤ w3.heap.size := B3.size
  have hl5 : w3.heap.size < (w3.alloc (.cells #[.int .i64 3, .slice (some ⟨g1, 0, none⟩) s.length c1, .slice A2 p.length c2] 35)).heap.size := by simp
  generalize w3.alloc (.cells #[.int .i64 3, .slice (some ⟨g1, 0, none⟩) s.length c1, .slice A2 p.length c2] 35) = W4 at *
  generalize w3.heap.size = g5 at *
  clear B3 P2 S3
  go_upto_region 5 with (first | (go_at_call 30; ((with_reducible refine (hd_s4 W4 (Glob.below hG B4)).mono ?_); rintro e w5 ⟨A1', A2', c1', c2', rfl, -, -, -, -, b5, -⟩; replace K5 := blk_below K5 b5; replace hl5 := Nat.lt_of_lt_of_le hl5 b5.size; replace hC1 := Kd.C_below hC1 b5; replace hC2 := Kd.C_below hC2 b5; replace B4 := B4.trans (b5.mono B4.size); clear b5)))
  have B5 := below_alloc B4 (.cells #[.int .i64 0, .slice A1' 0 c1', .slice A2' 0 c2'] 35)
  replace K5 := blk_alloc K5 (.cells #[.int .i64 0, .slice A1' 0 c1', .slice A2' 0 c2'] 35)
  replace hC1 := Kd.C_alloc hC1 (.cells #[.int .i64 0, .slice A1' 0 c1', .slice A2' 0 c2'] 35)
  replace hC2 := Kd.C_alloc hC2 (.cells #[.int .i64 0, .slice A1' 0 c1', .slice A2' 0 c2'] 35)
  have hl6 := blk_lt K5
  generalize w5.alloc (.cells #[.int .i64 0, .slice A1' 0 c1', .slice A2' 0 c2'] 35) = W5 at *
  have hx0 : W5.cell? ⟨g5, 0, none⟩ = some (.int .i64 3) := (blk_cell K5 0).trans rfl
  have hx1 : W5.cell? ⟨g5, 1, none⟩ = some (.slice (some ⟨g1, 0, none⟩) s.length c1) := (blk_cell K5 1).trans rfl
  have hx2 : W5.cell? ⟨g5, 2, none⟩ = some (.slice A2 p.length c2) := (blk_cell K5 2).trans rfl
  have d1 : ((p.length : Int) == 2) = true := beq_iff_eq.mpr (by have := HH.out.2.2.2.1; omega)
  have d2 : ((p.length : Int) != 2) = false := bne_eq_false_iff_eq.mpr (by have := HH.out.2.2.2.1; omega)
  go_upto_region 7 with (fail)
  clear d1 d2
  go_upto_region 8 with (fail)
  clear hx0 hx1 hx2
  have K9 := blk_new W5 (.cells #[.int .i64 3, .slice (some ⟨g1, 0, none⟩) s.length c1, .slice A2 p.length c2] 35)
  have BB := below_alloc (Below.refl W5.heap.size W5) (.cells #[.int .i64 3, .slice (some ⟨g1, 0, none⟩) s.length c1, .slice A2 p.length c2] 35)
  have hg9 : w.heap.size ≤ W5.heap.size := B5.size
  have hg59 : g5 ≠ W5.heap.size := by omega
  have hl9 := blk_lt K9
  generalize W5.alloc (.cells #[.int .i64 3, .slice (some ⟨g1, 0, none⟩) s.length c1, .slice A2 p.length c2] 35) = W6 at *
  have K5' := blk_below K5 BB
  have hx2 : W6.cell? ⟨g5, 2, none⟩ = some (.slice A2 p.length c2) := (blk_cell K5' 2).trans rfl
  have hy2 : W6.cell? ⟨W5.heap.size, 2, none⟩ = some (.slice A2 p.length c2) := (blk_cell K9 2).trans rfl
  have hf2 := blk_frozen K9 2
  have q1 : (1 : Int) ≤ (c2 : Int) := by have := HH.out.2.2.2.1; omega
  go_upto_region 9 with (fail)
  clear hx2 hy2 hf2
  replace K9 := blk_put (cs' := #[.int .i64 3, .slice (some ⟨g1, 0, none⟩) s.length c1, .slice A2 1 c2]) K9 2 (.slice A2 1 c2) rfl
  replace BB := BB.setCell (p := ⟨W5.heap.size, 2, none⟩) (Nat.le_refl _) (.slice A2 1 c2)
  replace K5' := blk_below K5 BB
  have hl9' := blk_lt K9
  generalize W6.setCell ⟨W5.heap.size, 2, none⟩ (.slice A2 1 c2) = W7 at *
  have hx0 : W7.cell? ⟨g5, 0, none⟩ = some (.int .i64 3) := (blk_cell K5' 0).trans rfl
  have hx1 : W7.cell? ⟨g5, 1, none⟩ = some (.slice (some ⟨g1, 0, none⟩) s.length c1) := (blk_cell K5' 1).trans rfl
  have hx2 : W7.cell? ⟨g5, 2, none⟩ = some (.slice A2 p.length c2) := (blk_cell K5' 2).trans rfl
  go_upto_region 10 with (fail)
  clear hx0 hx1 hx2
  have K10 := blk_new W7 (.cells #[.int .i64 3, .slice (some ⟨g1, 0, none⟩) s.length c1, .slice A2 p.length c2] 35)
  replace K9 := blk_alloc K9 (.cells #[.int .i64 3, .slice (some ⟨g1, 0, none⟩) s.length c1, .slice A2 p.length c2] 35)
  replace BB := below_alloc BB (.cells #[.int .i64 3, .slice (some ⟨g1, 0, none⟩) s.length c1, .slice A2 p.length c2] 35)
  have hg10 : W5.heap.size ≠ W7.heap.size := by omega
  generalize W7.alloc (.cells #[.int .i64 3, .slice (some ⟨g1, 0, none⟩) s.length c1, .slice A2 p.length c2] 35) = W8 at *
  generalize W7.heap.size = g10 at *
  replace K5' := blk_below K5 BB
  have hx1 : W8.cell? ⟨g5, 1, none⟩ = some (.slice (some ⟨g1, 0, none⟩) s.length c1) := (blk_cell K5' 1).trans rfl
  have hy1 : W8.cell? ⟨g10, 1, none⟩ = some (.slice (some ⟨g1, 0, none⟩) s.length c1) := (blk_cell K10 1).trans rfl
  have hf1 := blk_frozen K10 1
  have q2 : (1 : Int) ≤ (s.length : Int) := by have := HH.out.2.2.1; omega
  have q3 : ¬ c1 = 1 := by have := HH.out.2.2.1; omega
  have q4 : (s.length : Int) ≤ (c1 : Int) := by omega
  go_upto_region 11 with (fail)
  clear hx1 hy1 hf1
  replace K9 := blk_far K9 (p := ⟨g10, 1, none⟩) (by show W5.heap.size ≠ g10; omega) (.slice (some ⟨g1, 1, none⟩) (s.length - 1) (c1 - 1))
  replace K10 := blk_put (cs' := #[.int .i64 3, .slice (some ⟨g1, 1, none⟩) (s.length - 1) (c1 - 1), .slice A2 p.length c2]) K10 1 (.slice (some ⟨g1, 1, none⟩) (s.length - 1) (c1 - 1)) rfl
  replace BB := BB.setCell (p := ⟨g10, 1, none⟩) (by show W5.heap.size ≤ g10; omega) (.slice (some ⟨g1, 1, none⟩) (s.length - 1) (c1 - 1))
  clear K5'
  have K5' := blk_below K5 BB
  generalize W8.setCell ⟨g10, 1, none⟩ (.slice (some ⟨g1, 1, none⟩) (s.length - 1) (c1 - 1)) = W9 at *
  have hsl : s.length = 18 := HH.out.2.2.1
  have hpl : p.length = 2 := HH.out.2.2.2.1
  have hsb : ∀ x ∈ s, x.size = 16 := by rw [HH.out.1]; exact sigL_big _ _ _
  have hpb : ∀ x ∈ p, x.size = 16 := by rw [HH.out.2.1]; exact pathL_big _ _ _
  have hGw : ∀ W, Below W5.heap.size W5 W → Glob W := fun W hW => Glob.below hG (B5.trans (hW.mono B5.size))
  have V1 := Lib.hid (fun (W : World) (hW : Below W5.heap.size W5 W) => hd_v1 W (hGw W hW) (some ⟨g1, 0, none⟩) A2 c1 c2 s p HH.out.1 HH.out.2.1 (Kd.C_below hC1 hW) hc1 (Kd.C_below hC2 hW) hc2)
  have V4 := Lib.hid (fun (W : World) (hW : Below W5.heap.size W5 W) => hd_v4 W (hGw W hW) (some ⟨g1, 0, none⟩) A2 c1 c2 s p HH.out.1 HH.out.2.1 (Kd.C_below hC1 hW) hc1 (Kd.C_below hC2 hW) hc2)
  have hp1 : (p.take 1).length = 1 := by rw [List.length_take]; omega
  have hs1 : (s.drop 1).length = s.length - 1 := List.length_drop
  have V2 := Lib.hid (fun (W : World) (hW : Below W5.heap.size W5 W) => hd_vn W (hGw W hW) R (some ⟨g1, 0, none⟩) A2 c1 c2 s (p.take 1) (fun k => absurd k.2.2.2.2.2 (by rw [hp1]; decide)) hsb (fun x hx => hpb x (List.mem_of_mem_take hx)) (by omega) (by omega)
    (Kd.C_below hC1 hW) hc1 (Kd.C_take (Kd.C_below hC2 hW) (by omega)) (by omega))
  have V3 := Lib.hid (fun (W : World) (hW : Below W5.heap.size W5 W) => hd_vn W (hGw W hW) R (some ⟨g1, 1, none⟩) A2 (c1 - 1) c2 (s.drop 1) p (fun k => absurd k.1 (by omega)) (fun x hx => hsb x (List.mem_of_mem_drop hx)) hpb (by omega) (by omega)
    (by have := Kd.C_drop (m := 1) (Kd.C_below hC1 hW) (by omega) hc1
        rw [if_neg q3] at this
        exact this) (by omega) (Kd.C_below hC2 hW) hc2)
  rw [hp1] at V2
  rw [hs1] at V3
  rw [← HH.out.2.2.2.2] at V1
  have BB' := Lib.hid BB
  clear BB hsl hpl hsb hpb hGw hp1 hs1 hC1 hC2 K5 hc1 hc2 q1 q2 q3 q4 hg5 hl5 hl6 hg59 hl9 hl9' hg10 B4
  have x0 : W9.cell? ⟨g5, 0, none⟩ = some (.int .i64 3) := (blk_cell K5' 0).trans rfl
  have x1 : W9.cell? ⟨g5, 1, none⟩ = some (.slice (some ⟨g1, 0, none⟩) s.length c1) := (blk_cell K5' 1).trans rfl
  have x2 : W9.cell? ⟨g5, 2, none⟩ = some (.slice A2 p.length c2) := (blk_cell K5' 2).trans rfl
  go_wp2_with (first
    | (go_at_call 33; ((with_reducible refine (V1.out W9 BB'.out).mono ?_); rintro e w10 ⟨rfl, b10⟩; have k5 := blk_below K5' b10; have k9 := blk_below K9 b10; have k10 := blk_below K10 b10; have BA := Lib.hid (BB'.out.trans (b10.mono BB'.out.size)); have y0 : w10.cell? ⟨W5.heap.size, 0, none⟩ = some (.int .i64 3) := (blk_cell k9 0).trans rfl; have y1 : w10.cell? ⟨W5.heap.size, 1, none⟩ = some (.slice (some ⟨g1, 0, none⟩) s.length c1) := (blk_cell k9 1).trans rfl; have y2 : w10.cell? ⟨W5.heap.size, 2, none⟩ = some (.slice A2 1 c2) := (blk_cell k9 2).trans rfl; clear b10))
    | (go_at_call 33; ((with_reducible refine (V2.out w10 BA.out).mono ?_); rintro e w11 ⟨rfl, b11⟩; replace k5 := blk_below k5 b11; replace k10 := blk_below k10 b11; have BC := Lib.hid (BA.out.trans (b11.mono BA.out.size)); have z0 : w11.cell? ⟨g10, 0, none⟩ = some (.int .i64 3) := (blk_cell k10 0).trans rfl; have z1 : w11.cell? ⟨g10, 1, none⟩ = some (.slice (some ⟨g1, 1, none⟩) (s.length - 1) (c1 - 1)) := (blk_cell k10 1).trans rfl; have z2 : w11.cell? ⟨g10, 2, none⟩ = some (.slice A2 p.length c2) := (blk_cell k10 2).trans rfl; clear b11))
    | (go_at_call 33; ((with_reducible refine (V3.out w11 BC.out).mono ?_); rintro e w12 ⟨rfl, b12⟩; replace k5 := blk_below k5 b12; have BD := Lib.hid (BC.out.trans (b12.mono BC.out.size)); have v0 : w12.cell? ⟨g5, 0, none⟩ = some (.int .i64 3) := (blk_cell k5 0).trans rfl; have v1 : w12.cell? ⟨g5, 1, none⟩ = some (.slice (some ⟨g1, 0, none⟩) s.length c1) := (blk_cell k5 1).trans rfl; have v2 : w12.cell? ⟨g5, 2, none⟩ = some (.slice A2 p.length c2) := (blk_cell k5 2).trans rfl; clear b12))
    | (go_at_call 33; ((with_reducible refine (V4.out w12 BD.out).mono ?_); rintro e w13 ⟨rfl, b13⟩; have BE := Lib.hid (BD.out.trans (b13.mono BD.out.size)); clear b13)))
  go_ret
  exact ⟨rfl, B5.trans (BE.out.mono hg9)⟩
def planispherelaw02_head.f : Option Bool := some true
theorem planispherelaw02_head.calls (r : Bool) (w : World) (h : planispherelaw02_head.f = some r) (hG : Glob w) :
    Calls Tryd.prog 25 #[] w fun e w' => e = .returned (.bool r) ∧ Below w.heap.size w w' := by
  obtain rfl := Option.some.inj h
  exact planispherelaw02_head_calls w hG
end Go.Proofs.YteleheamnighkaaDoor
end
section
namespace Go.Proofs.YteleheamnighkaaDoor.PSBinds
open Go.RowKit Go.Proofs.YteleheamnighkaaDoorW.PrintWords Go.Proofs.YteleheamnighkaaDoorW.PrintLast Go.Proofs.YteleheamnighkaaDoorW.PrintMore
attribute [local go_sem] max2_int min2_int max_two min_two max_three min_three max_four min_four   -- for this text's walks alone
set_option linter.unusedVariables false
set_option linter.unusedSimpArgs false
def errW : Option Int → Value
  | none => .nilIface
  | some c => .iface 0 (.int .i64 c)
theorem errW_none : errW none = .nilIface := rfl
theorem errW_some (c : Int) : errW (some c) = .iface 0 (.int .i64 c) := rfl
theorem info9 : (Tryd.prog.info? 9).map (fun i => (i.zero, i.size, i.bytes)) = some (some (.string ⟨#[]⟩), 1, 16) := by kernel_rfl
end Go.Proofs.YteleheamnighkaaDoor.PSBinds
end
