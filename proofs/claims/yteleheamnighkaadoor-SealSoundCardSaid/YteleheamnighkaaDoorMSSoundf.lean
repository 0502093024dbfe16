/-
What RowSSound leans on, part 6: the texts of this seat, merged.
-/
import Derived.Test.YteleheamnighkaaDoorMSSounde
import Derived.Test.YteleheamnighkaaDoorProg
import Derived.Below
import Derived.Deep.Draws
import Derived.Deep.AppendLies
import Derived.Maps.AppendAt
import Derived.OwnWalk
import Derived.Laws.BytesArg
import Derived.Laws.MakeOwn
import Derived.Laws.OwnMore
import Derived.Deep.OwnRows
import Derived.Tactics
import Derived.Lib.ConvBytes
import Derived.Laws.Slices
import Derived.WalkKit
import Derived.KernelRfl
import Derived.RowKit3
import Derived.Deep.LoopGhost
import Derived.Deep.QuietTactic
import Derived.BigQuiet
import Derived.WideLaws
import Derived.Deep.DeepCutAuto
import Derived.Deep.CutBlock
import Derived.Deep.RegionHeld3
import Derived.Laws.Rows
import Derived.Lib.AppendStr
import Derived.ArgAppend
import Derived.Laws.IdiomCopy
import Derived.OrdersHeld
import Derived.Laws.BitsLemmas
import Derived.RowKit
import Derived.Test.YteleheamnighkaaDoorRows
import Derived.Test.YteleheamnighkaaDoorTie
import Derived.Test.YteleheamnighkaaDoorCards
import Derived.ProofKit
import Derived.OpenShut
import Derived.ShutString
import Derived.ChangeOld
import Derived.SizedLaws
import Derived.Lay
import Derived.LaidMore
import Derived.Lib.LaidTab
import Derived.Lib.LaidU8
import Derived.Lib.SmallJoins
import Derived.SliceStrings
import Derived.SevenTiedAt
section
namespace Go.Proofs.YteleheamnighkaaDoor.PCf
open Go.RowKit Go.Proofs.YteleheamnighkaaDoorW.PrintWords Go.Proofs.YteleheamnighkaaDoorW.PrintLast Go.Proofs.YteleheamnighkaaDoorW.PrintMore
attribute [local go_sem] max2_int min2_int max_two min_two max_three min_three max_four min_four   -- for this text's walks alone
set_option linter.unusedVariables false
set_option linter.unusedSimpArgs false
mutual
def planisphereref02_Checked.j1 : Nat → List ByteArray → List ByteArray → Int → List ByteArray → List ByteArray → Option (List ByteArray)
  | 0, _, _, _, _, _ => none
  | k + 1, x6, x7, x144000, x144001, x144002 => (planisphereref01_Joined.f x7).bind fun t160 => (if x6.length < 8796093022208 then ((planisphereref01_Sum.f t160).bind fun t164 => (planisphereref02_Checked.l1 k (x6 ++ [t160]) t164 x144000 0 x144000 x144001 x144002)) else (none))
def planisphereref02_Checked.l1 : Nat → List ByteArray → ByteArray → Int → Int → Int → List ByteArray → List ByteArray → Option (List ByteArray)
  | 0, _, _, _, _, _, _, _ => none
  | k + 1, x6, x11, x12, x13, x144000, x144001, x144002 => if x13 < (x144002.length : Int) then (if 0 ≤ x13 then ((planisphereref02_node.f x11 (rdOf ByteArray.empty x144002 x13)).bind fun t166 => (if (Int.tmod x12 2) = 1 then ((planisphereref02_node.f (rdOf ByteArray.empty x144002 x13) x11).bind fun t168 => (if x6.length < 8796093022208 then ((planisphereref01_Sum.f t168).bind fun t172 => (planisphereref02_Checked.l1 k (x6 ++ [t168]) t172 (wrap64 (Int.tdiv x12 2)) (wrap64 (x13 + 1)) x144000 x144001 x144002)) else (none))) else (if x6.length < 8796093022208 then ((planisphereref01_Sum.f t166).bind fun t176 => (planisphereref02_Checked.l1 k (x6 ++ [t166]) t176 (wrap64 (Int.tdiv x12 2)) (wrap64 (x13 + 1)) x144000 x144001 x144002)) else (none)))) else (none)) else (some x6)
def planisphereref02_Checked.l0 : Nat → List Int → List ByteArray → List ByteArray → Int → Int → List ByteArray → List ByteArray → Option (List ByteArray)
  | 0, _, _, _, _, _, _, _ => none
  | k + 1, x5, x6, x7, x8, x144000, x144001, x144002 => if x8 < 18 then (if x8 < (x144001.length : Int) then (if 0 ≤ x8 then (if x8 < (x5.length : Int) then ((planisphereref02_chained.f (rdOf ByteArray.empty x144001 x8) (wrap64 (15 - (rd x5 x8)))).bind fun t149 => (if x6.length + t149.length < 8796093022208 then (if 0 ≤ (wrap64 (15 - (rd x5 x8))) then (if (wrap64 (15 - (rd x5 x8))) < (t149.length : Int) then (if x7.length < 8796093022208 then (planisphereref02_Checked.l0 k x5 (x6 ++ t149) (x7 ++ [rdOf ByteArray.empty t149 (wrap64 (15 - (rd x5 x8)))]) (wrap64 (x8 + 1)) x144000 x144001 x144002) else (none)) else (none)) else (none)) else (none))) else (none)) else (none)) else (planisphereref02_Checked.j1 k x6 x7 x144000 x144001 x144002)) else (planisphereref02_Checked.j1 k x6 x7 x144000 x144001 x144002)
end
def planisphereref02_Checked.f (k : Nat) (a0 : ByteArray) (a1_0 : Int) (l1_1 : List ByteArray) (l1_2 : List ByteArray) : Option (List ByteArray) := (planisphereref02_Digits.f a0).bind fun t144 => (planisphereref02_Checked.l0 k t144 ([] : List ByteArray) ([] : List ByteArray) 0 a1_0 l1_1 l1_2)
def planisphereref02_Checked.T7 : Bool × List (List Nat × List Nat) := (true, [([], []), ([0], [0]), ([], []), ([1, 2], [1, 2]), ([3], [3]), ([], []), ([], []), ([5, 6], [5, 6]), ([7], [7]), ([8], [8]), ([4, 9], [4, 9]), ([10, 10, 0, 1, 2, 3, 4, 5, 6, 7, 8, 9, 10], [10])])
def planisphereref02_Checked.B7 : List Nat := [0, 1, 0, 7, 15, 0, 0, 96, 224, 480, 1023, 2047]
theorem planisphereref02_Checked.tab7 : rtab .any (opsOf Tryd.f37 7) = planisphereref02_Checked.T7 := by kernel_rfl
theorem planisphereref02_Checked.bits7 : waitsOk planisphereref02_Checked.T7.2 planisphereref02_Checked.B7 = true := by kernel_rfl
set_option maxHeartbeats 8000000 in
set_option maxRecDepth 100000 in
theorem planisphereref02_Checked.calls (k : Nat) (a0 : ByteArray) (a1_0 : Int) (A1_1 : Option Addr) (c1_1 : Nat) (l1_1 : List ByteArray) (A1_2 : Option Addr) (c1_2 : Nat) (l1_2 : List ByteArray) (r : List ByteArray) (w : World) (hr1_1 : Kd.C Kd.string w A1_1 l1_1.length l1_1) (hc1_1 : l1_1.length ≤ c1_1) (hr1_2 : Kd.C Kd.string w A1_2 l1_2.length l1_2) (hc1_2 : l1_2.length ≤ c1_2) (h : planisphereref02_Checked.f k a0 a1_0 l1_1 l1_2 = some r) :
    Calls Tryd.prog 37 #[.string a0, .agg #[.int .i64 a1_0, .slice A1_1 l1_1.length c1_1, .slice A1_2 l1_2.length c1_2]] w fun e w' => ∃ v0_ : Value, e = .returned (v0_) ∧ Kd.R Kd.string 9 w' w.heap.size (fun _ => True) v0_ r ∧ Below w.heap.size w w' := by
  have hu35 := Tryd.underlying35
  have HR1_1 := Aside0.mk hr1_1
  have HC1_1 := Aside0.mk hc1_1
  clear hr1_1 hc1_1
  have HR1_2 := Aside0.mk hr1_2
  have HC1_2 := Aside0.mk hc1_2
  clear hr1_2 hc1_2
  have HB := Aside0.mk (Below.refl w.heap.size w)
  have H : ((planisphereref02_Digits.f a0).bind fun t144 => (planisphereref02_Checked.l0 k t144 ([] : List ByteArray) ([] : List ByteArray) 0 a1_0 l1_1 l1_2)) = some r := h
  clear h
  replace H := Option.bind_eq_some_iff.mp H
  obtain ⟨t144, A30, H⟩ := H
  replace H : (planisphereref02_Checked.l0 k t144 ([] : List ByteArray) ([] : List ByteArray) 0 a1_0 l1_1 l1_2) = some r := H
  have A3 := Aside0.mk A30
  clear A30
  have HC4 := Aside0.mk H
  clear H
  go_enter Tryd.func37, Tryd.ntmps37
  go_upto_block 0 with (first | ((with_reducible refine gate_dst (N := 3) rfl ?_); (try (refine gate_guard (by rfl) ?_; dsimp only)); refine box_event ?hg (N := 3) ?hd (cs := #[.int .i64 a1_0, .slice A1_1 l1_1.length c1_1, .slice A1_2 l1_2.length c1_2]) (t := 35) ?hr ?_; (case hd => rfl); (case hg => rfl); (case hr => first | (go_simp; done) | (go_simp; rfl)); intro gb143 hg w5 hbox hb; have n0_ := Aside0.mk (below_step (by repeat (first | (with_reducible first | exact HB.out | apply below_alloc | apply pw_below_drewN | apply below_drew1) | exact HB.out)) hb); have n1_ := Aside0.mk (hbox); have n2_ := Aside0.mk ((by rw [hg]; exact (below_size (by repeat (first | (with_reducible first | exact HB.out | apply below_alloc | apply pw_below_drewN | apply below_drew1) | exact HB.out))) : w.heap.size ≤ gb143)); have n3_ := Aside0.mk ((by rw [hg]; exact (below_size (by repeat (first | (with_reducible first | exact HB.out | apply below_alloc | apply pw_below_drewN | apply below_drew1) | exact HB.out))) : w.heap.size ≤ gb143)); clear HB; have HB := n0_; have BK143 := n1_; have GW143 := n2_; have GE143 := n3_; clear n0_ n1_ n2_ n3_; clear hb hbox hg) | ((with_reducible refine gate_callee (f := 56) rfl ?_); refine goesL_ (some 16) rfl rfl Tryd.func56 (by kernel_rfl) rfl #[.string a0] rfl (by (try simp only [List.map_toArray, List.map_cons, List.map_nil]); first | done | rfl | (simp only [List.length_drop, List.length_take]; rfl)) ?_; (with_reducible refine (planisphereref02_Digits.calls a0 t144 _ A3.out).mono ?_); clear A3; rintro e w6 ⟨v145, rfl, ho0, hb⟩; refine ⟨_, rfl, ?_⟩; have n0_ := Aside0.mk (Kd.R_lower ho0 (below_size (by repeat (first | (with_reducible first | exact HB.out | apply below_alloc | apply pw_below_drewN | apply below_drew1 | refine below_set ?_ GE143.out) | exact HB.out)))); have n1_ := Aside0.mk (blk_below (g := gb143) (o := .cells #[.int .i64 a1_0, .slice A1_1 l1_1.length c1_1, .slice A1_2 l1_2.length c1_2] 35 (0, 0)) (by (with_reducible repeat (first | refine blk_drewN ?_ _ | refine blk_drew ?_ | refine blk_alloc ?_ _)); exact BK143.out) hb); have n2_ := Aside0.mk (below_step (by repeat (first | (with_reducible first | exact HB.out | apply below_alloc | apply pw_below_drewN | apply below_drew1 | refine below_set ?_ GE143.out) | exact HB.out)) hb); clear BK143; clear HB; have HO146 := n0_; have BK143 := n1_; have HB := n2_; clear n0_ n1_ n2_; (try clear hb); (try clear hb2); (try clear hk); (try clear hi); (try clear ho0)))
  (try simp only [Act.put, List.setIfInBounds_toArray, List.set_cons_zero, List.set_cons_succ])
  go_cut [6, 7] (fun v6 v7 wc => ∃ (kq : Nat) (x6_3 : List ByteArray) (x7_3 : List ByteArray), Aside0 (planisphereref02_Checked.j1 kq x6_3 x7_3 a1_0 l1_1 l1_2 = some r) ∧ Aside0 (kq ≤ k) ∧ Aside0 (Kd.R Kd.string 9 wc w.heap.size (fun k_ => some k_ ≠ (v7 : Value).ownBlock) v6 x6_3) ∧ Aside0 (Kd.R Kd.string 9 wc w.heap.size (fun k_ => some k_ ≠ (v6 : Value).ownBlock) v7 x7_3) ∧ Aside0 (wc.heap[gb143]? = some (.cells #[.int .i64 a1_0, (.slice A1_1 l1_1.length c1_1), (.slice A1_2 l1_2.length c1_2)] 35 (0, 0))) ∧ Aside0 (Below w.heap.size w wc))
  case first =>
    have H := HC4.out
    clear HC4
    have H' := Aside0.mk H
    clear H
    go_wp2
    go_loopg [6, 7, 8] k (fun kq v6 v7 v8 w' => ∃ (x6_1 : List ByteArray) (x7_1 : List ByteArray) (x8_1 : Int), v8 = .int .i64 x8_1 ∧ Aside0 (planisphereref02_Checked.l0 kq t144 x6_1 x7_1 x8_1 a1_0 l1_1 l1_2 = some r) ∧ Aside0 (kq ≤ k) ∧ Aside0 (Kd.R (Kd.int .i64) 3 w' w.heap.size (fun _ => True) v145 t144) ∧ Aside0 (Kd.R Kd.string 9 w' w.heap.size (fun k_ => some k_ ≠ (v7 : Value).ownBlock) v6 x6_1) ∧ Aside0 (Kd.R Kd.string 9 w' w.heap.size (fun k_ => some k_ ≠ (v6 : Value).ownBlock) v7 x7_1) ∧ Aside0 (w'.heap[gb143]? = some (.cells #[.int .i64 a1_0, (.slice A1_1 l1_1.length c1_1), (.slice A1_2 l1_2.length c1_2)] 35 (0, 0))) ∧ Aside0 (Below w.heap.size w w'))
    case atStart => exact ⟨(([] : List ByteArray)), (([] : List ByteArray)), (0), (by first | rfl | (simp; done) | (simp [*]; done)), H', ⟨Nat.le_refl _⟩, ⟨by (with_reducible repeat (first | apply Kd.R_alloc | apply Kd.R_drewN | apply Kd.R_drew)); exact HO146.out⟩, ⟨by first | exact Kd.R_nil _ _ _ _ _ | exact Kd.N_nil _ _ _ _ _ | exact Kd.V_nil _ _ _ _ _ | exact Kd.Q_nil _ _ _ _ _ | exact Kd.S_nil _ _ _ _ _⟩, ⟨by first | exact Kd.R_nil _ _ _ _ _ | exact Kd.N_nil _ _ _ _ _ | exact Kd.V_nil _ _ _ _ _ | exact Kd.Q_nil _ _ _ _ _ | exact Kd.S_nil _ _ _ _ _⟩, ⟨by (with_reducible repeat (first | refine blk_drewN ?_ _ | refine blk_drew ?_ | refine blk_alloc ?_ _)); exact BK143.out⟩, ⟨by repeat (first | (with_reducible first | exact HB.out | apply below_alloc | apply pw_below_drewN | apply below_drew1 | refine below_set ?_ GE143.out) | exact HB.out)⟩⟩
    case round =>
      clear H'
      try clear c1
      try clear p2
      try clear c3
      try clear c5
      obtain ⟨x6_1, x7_1, x8_1, rfl, HA, HK1, HO_5, HO_6, HO_7, BK143, HB⟩ := hrel
      cases gk with
      | zero => exact absurd HA.out (by simp [planisphereref02_Checked.l0])
      | succ k1 =>
        have H := HA.out
        clear HA
        simp only [planisphereref02_Checked.l0] at H
        by_cases c7 : x8_1 < 18
        · rw [if_pos c7] at H
          have c7b0 : decide (x8_1 < 18) = true := decide_eq_true c7
          clear c7
          (first | rw [c7b0] | (simp only [i64_w, i32_w]; rw [c7b0]) | skip)
          by_cases c8 : x8_1 < (l1_1.length : Int)
          · rw [if_pos c8] at H
            have c8b0 : decide (x8_1 < (l1_1.length : Int)) = true := decide_eq_true c8
            clear c8
            by_cases c9 : 0 ≤ x8_1
            · rw [if_pos c9] at H
              have c9b0 : decide (0 ≤ x8_1) = true := decide_eq_true c9
              clear c9
              by_cases c10 : x8_1 < (t144.length : Int)
              · rw [if_pos c10] at H
                have c10b0 : decide (x8_1 < (t144.length : Int)) = true := decide_eq_true c10
                clear c10
                replace H := Option.bind_eq_some_iff.mp H
                obtain ⟨t149, A110, H⟩ := H
                replace H : (if x6_1.length + t149.length < 8796093022208 then (if 0 ≤ (wrap64 (15 - (rd t144 x8_1))) then (if (wrap64 (15 - (rd t144 x8_1))) < (t149.length : Int) then (if x7_1.length < 8796093022208 then (planisphereref02_Checked.l0 k1 t144 (x6_1 ++ t149) (x7_1 ++ [rdOf ByteArray.empty t149 (wrap64 (15 - (rd t144 x8_1)))]) (wrap64 (x8_1 + 1)) a1_0 l1_1 l1_2) else (none)) else (none)) else (none)) else (none)) = some r := H
                have A11 := Aside0.mk A110
                clear A110
                by_cases c12 : x6_1.length + t149.length < 8796093022208
                · rw [if_pos c12] at H
                  have LMc12 := Aside0.mk c12
                  clear c12
                  obtain ⟨y152, hy152⟩ : ∃ y_ : List ByteArray, y_ = (x6_1 ++ t149) := ⟨_, rfl⟩
                  replace H : (if 0 ≤ (wrap64 (15 - (rd t144 x8_1))) then (if (wrap64 (15 - (rd t144 x8_1))) < (t149.length : Int) then (if x7_1.length < 8796093022208 then (planisphereref02_Checked.l0 k1 t144 y152 (x7_1 ++ [rdOf ByteArray.empty t149 (wrap64 (15 - (rd t144 x8_1)))]) (wrap64 (x8_1 + 1)) a1_0 l1_1 l1_2) else (none)) else (none)) else (none)) = some r := by first | (rw [hy152]; with_reducible exact H) | (have H2_ := (Option.bind_some _ _).symm.trans H; rw [hy152]; with_reducible exact H2_) | (have H2_ := (Option.bind_some _ _).symm.trans H; with_reducible exact H2_) | with_reducible exact H | (rw [hy152]; exact H) | exact H
                  have Ny152 := Aside0.mk hy152
                  clear hy152
                  obtain ⟨ji13, hji13⟩ : ∃ j_ : Int, (wrap64 (15 - (rd t144 x8_1))) = j_ := ⟨_, rfl⟩
                  replace H : (if 0 ≤ (ji13) then (if (ji13) < (t149.length : Int) then (if x7_1.length < 8796093022208 then (planisphereref02_Checked.l0 k1 t144 y152 (x7_1 ++ [rdOf ByteArray.empty t149 (ji13)]) (wrap64 (x8_1 + 1)) a1_0 l1_1 l1_2) else (none)) else (none)) else (none)) = some r := by first | (rw [hji13] at H; exact H) | (simp only [hji13] at H ⊢; exact H)
                  (try rw [hji13] at A11)
                  have hji13w : (IntKind.i64.wrap (15 - (rd t144 x8_1))) = ji13 := (i64_w _).trans hji13
                  by_cases c14 : 0 ≤ (ji13)
                  · rw [if_pos c14] at H
                    have c14b0 : decide (0 ≤ (ji13)) = true := decide_eq_true c14
                    clear c14
                    by_cases c15 : (ji13) < (t149.length : Int)
                    · rw [if_pos c15] at H
                      have c15b0 : decide ((ji13) < (t149.length : Int)) = true := decide_eq_true c15
                      clear c15
                      by_cases c16 : x7_1.length < 8796093022208
                      · rw [if_pos c16] at H
                        have LMc16 := Aside0.mk c16
                        clear c16
                        obtain ⟨y157, hy157⟩ : ∃ y_ : List ByteArray, y_ = (x7_1 ++ [rdOf ByteArray.empty t149 (ji13)]) := ⟨_, rfl⟩
                        replace H : (planisphereref02_Checked.l0 k1 t144 y152 y157 (wrap64 (x8_1 + 1)) a1_0 l1_1 l1_2) = some r := by first | (rw [hy157]; with_reducible exact H) | (have H2_ := (Option.bind_some _ _).symm.trans H; rw [hy157]; with_reducible exact H2_) | (have H2_ := (Option.bind_some _ _).symm.trans H; with_reducible exact H2_) | with_reducible exact H | (rw [hy157]; exact H) | exact H
                        have Ny157 := Aside0.mk hy157
                        clear hy157
                        have H' := Aside0.mk H
                        clear H
                        have hcz17_0 : wr.cell? ⟨gb143, 0, none⟩ = some (.int .i64 a1_0) := (blk_cell BK143.out 0).trans rfl
                        have hcz17_1 : wr.cell? ⟨gb143, 1, none⟩ = some (.slice A1_1 l1_1.length c1_1) := (blk_cell BK143.out 1).trans rfl
                        have hcz17_2 : wr.cell? ⟨gb143, 2, none⟩ = some (.slice A1_2 l1_2.length c1_2) := (blk_cell BK143.out 2).trans rfl
                        have hfz17_0 := blk_frozen BK143.out 0
                        have hfz17_1 := blk_frozen BK143.out 1
                        have hfz17_2 := blk_frozen BK143.out 2
                        try go_wp2
                        have n0_ := Aside0.mk (Kd.R_drew HO_5.out)
                        have n1_ := Aside0.mk (Kd.R_drew HO_6.out)
                        have n2_ := Aside0.mk (Kd.R_drew HO_7.out)
                        have n3_ := Aside0.mk (blk_drew BK143.out)
                        have n4_ := Aside0.mk (below_drew1 HB.out)
                        clear HO_5
                        clear HO_6
                        clear HO_7
                        clear BK143
                        clear HB
                        have HO_5 := n0_
                        have HO_6 := n1_
                        have HO_7 := n2_
                        have BK143 := n3_
                        have HB := n4_
                        clear n0_ n1_ n2_ n3_ n4_
                        have p147 : 0 ≤ (x8_1 : Int) := of_decide_eq_true (by first | (with_reducible assumption) | assumption)
                        have q147 : x8_1 < (l1_1.length : Int) := of_decide_eq_true (by first | (with_reducible assumption) | assumption)
                        obtain ⟨ad147, e147, hx147_0⟩ := Kd.at_string HR1_1.out x8_1 p147 q147
                        have hw147_0 := hx147_0
                        cases e147
                        replace hx147_0 := (HB.out.cell (World.block_lt_of_cell? w _ hx147_0)).trans hx147_0
                        replace p147 := eq_true p147
                        replace q147 := eq_true q147
                        obtain ⟨Ao19, co19, eo19⟩ := Kd.R_slice HO_5.out
                        (first | subst eo19 | (injection eo19 with f1_ f2_ f3_; have f4_ := f1_.symm; have f5_ := f3_.symm; clear f1_ f2_ f3_; subst f4_; subst f5_))
                        have p148 : 0 ≤ (x8_1 : Int) := of_decide_eq_true (by first | (with_reducible assumption) | assumption)
                        have q148 : x8_1 < (t144.length : Int) := of_decide_eq_true (by first | (with_reducible assumption) | assumption)
                        obtain ⟨ad148, e148, hx148_0⟩ := Kd.at_int (Kd.R_reads' HO_5.out).2.2 x8_1 p148 q148
                        cases e148
                        replace p148 := eq_true p148
                        replace q148 := eq_true q148
                        refine start_ (n := 12) (S := fun w' => w'.cell? ⟨gb143, 0, none⟩ = some (.int .i64 a1_0) ∧ w'.cell? ⟨gb143, 1, none⟩ = some (.slice (some ad147) l1_1.length c1_1) ∧ w'.cell? ⟨gb143, 2, none⟩ = some (.slice A1_2 l1_2.length c1_2) ∧ w'.cell? (ad147.add (x8_1).toNat) = some (.string (rdOf ByteArray.empty l1_1 x8_1)) ∧ w'.cell? (ad148.add (x8_1).toNat) = some (.int .i64 (rd t144 x8_1))) (ds := []) #[false, false, false, false, false, false, false, false, false, false, false, false] (by kernel_rfl) rfl rfl ⟨(blk_cell BK143.out 0).trans rfl, (blk_cell BK143.out 1).trans rfl, (blk_cell BK143.out 2).trans rfl, ((HB.out.cell (World.block_lt_of_cell? w _ hw147_0)).trans hw147_0), hx148_0⟩ (fun hHeld => ?_); refine with_tabW planisphereref02_Checked.tab7 planisphereref02_Checked.bits7 (fun HT_ HW_ => ?_)
                        generalize wr.drew = w18 at HO_5 HO_6 HO_7 BK143 HB hx147_0 hx148_0 hHeld ⊢
                        refine pure_ (i := 0) (N := some 28) (v := ?_) (a' := ?_) #[true, false, false, false, false, false, false, false, false, false, false, false] rfl rfl (any_of HT_.out (by kernel_rfl)) (fun _ _ _ h => h) (Or.inl ⟨by rfl, ?_⟩) ?_ ?_
                        rotate_left
                        · intro w'
                          first | (go_simp; with_reducible rfl) | (go_simp; rw [if_neg (by (have hone_ : ∀ b : UInt8, (ByteArray.mk #[b]).size = 1 := fun _ => rfl); (simp only [decide_eq_true_eq, ByteArray.size_extract, ByteArray.size_append, hone_] at *); omega)]; try with_reducible rfl)
                        rotate_left
                        · simp only [Act.put, List.setIfInBounds_toArray, List.set_cons_zero, List.set_cons_succ, i64_w, i32_w]
                          rfl
                        refine pure_ (i := 2) (N := some 30) (v := ?_) (a' := ?_) #[true, false, true, false, false, false, false, false, false, false, false, false] rfl rfl (any_of HT_.out (by kernel_rfl)) (fun _ _ _ h => h) (Or.inl ⟨by rfl, ?_⟩) ?_ ?_
                        rotate_left
                        · intro w'
                          first | (go_simp; with_reducible rfl) | (go_simp; rw [if_neg (by (have hone_ : ∀ b : UInt8, (ByteArray.mk #[b]).size = 1 := fun _ => rfl); (simp only [decide_eq_true_eq, ByteArray.size_extract, ByteArray.size_append, hone_] at *); omega)]; try with_reducible rfl)
                        rotate_left
                        · simp only [Act.put, List.setIfInBounds_toArray, List.set_cons_zero, List.set_cons_succ, i64_w, i32_w]
                          rfl
                        refine pure_ (i := 5) (N := some 33) (v := ?_) (a' := ?_) #[true, false, true, false, false, true, false, false, false, false, false, false] rfl rfl (any_of HT_.out (by kernel_rfl)) (fun _ _ _ h => h) (Or.inl ⟨by rfl, ?_⟩) ?_ ?_
                        rotate_left
                        · intro w'
                          first | (go_simp; with_reducible rfl) | (go_simp; rw [if_neg (by (have hone_ : ∀ b : UInt8, (ByteArray.mk #[b]).size = 1 := fun _ => rfl); (simp only [decide_eq_true_eq, ByteArray.size_extract, ByteArray.size_append, hone_] at *); omega)]; try with_reducible rfl)
                        rotate_left
                        · simp only [Act.put, List.setIfInBounds_toArray, List.set_cons_zero, List.set_cons_succ, i64_w, i32_w]
                          rfl
                        refine pure_ (i := 6) (N := some 34) (v := ?_) (a' := ?_) #[true, false, true, false, false, true, true, false, false, false, false, false] rfl rfl (any_of HT_.out (by kernel_rfl)) (fun _ _ _ h => h) (Or.inl ⟨by rfl, ?_⟩) ?_ ?_
                        rotate_left
                        · intro w'
                          first | (go_simp; with_reducible rfl) | (go_simp; rw [if_neg (by (have hone_ : ∀ b : UInt8, (ByteArray.mk #[b]).size = 1 := fun _ => rfl); (simp only [decide_eq_true_eq, ByteArray.size_extract, ByteArray.size_append, hone_] at *); omega)]; try with_reducible rfl)
                        rotate_left
                        · simp only [Act.put, List.setIfInBounds_toArray, List.set_cons_zero, List.set_cons_succ, i64_w, i32_w]
                          rfl
                        refine pure_ (i := 7) (N := some 35) (v := ?_) (a' := ?_) #[true, false, true, false, false, true, true, true, false, false, false, false] rfl rfl (any_of HT_.out (by kernel_rfl)) (fun _ _ _ h => h) (Or.inl ⟨by rfl, ?_⟩) ?_ ?_
                        rotate_left
                        · intro w'
                          first | (go_simp; with_reducible rfl) | (go_simp; rw [if_neg (by (have hone_ : ∀ b : UInt8, (ByteArray.mk #[b]).size = 1 := fun _ => rfl); (simp only [decide_eq_true_eq, ByteArray.size_extract, ByteArray.size_append, hone_] at *); omega)]; try with_reducible rfl)
                        rotate_left
                        · simp only [Act.put, List.setIfInBounds_toArray, List.set_cons_zero, List.set_cons_succ, i64_w, i32_w]
                          rfl
                        refine take_ (i := 1) (N := some 29) (v := ?_) (a' := ?_) #[true, true, true, false, false, true, true, true, false, false, false, false] rfl rfl (take_ofW HT_.out HW_.out (by kernel_rfl)) (fun _ _ _ h => h) (Or.inl ⟨by rfl, ?_⟩) hHeld ?_ ?_
                        rotate_left
                        · rintro w' ⟨s0, s1, s2, s3, s4⟩
                          go_simp
                          with_reducible rfl
                        rotate_left
                        · simp only [Act.put, List.setIfInBounds_toArray, List.set_cons_zero, List.set_cons_succ, i64_w, i32_w]
                          rfl
                        refine pure_ (i := 3) (N := some 31) (v := ?_) (a' := ?_) #[true, true, true, true, false, true, true, true, false, false, false, false] rfl rfl (any_of HT_.out (by kernel_rfl)) (fun _ _ _ h => h) (Or.inl ⟨by rfl, ?_⟩) ?_ ?_
                        rotate_left
                        · intro w'
                          first | (go_simp; with_reducible rfl) | (go_simp; rw [if_neg (by (have hone_ : ∀ b : UInt8, (ByteArray.mk #[b]).size = 1 := fun _ => rfl); (simp only [decide_eq_true_eq, ByteArray.size_extract, ByteArray.size_append, hone_] at *); omega)]; try with_reducible rfl)
                        rotate_left
                        · simp only [Act.put, List.setIfInBounds_toArray, List.set_cons_zero, List.set_cons_succ, i64_w, i32_w]
                          rfl
                        refine take_ (i := 4) (N := some 32) (v := ?_) (a' := ?_) #[true, true, true, true, true, true, true, true, false, false, false, false] rfl rfl (take_ofW HT_.out HW_.out (by kernel_rfl)) (fun _ _ _ h => h) (Or.inl ⟨by rfl, ?_⟩) hHeld ?_ ?_
                        rotate_left
                        · rintro w' ⟨s0, s1, s2, s3, s4⟩
                          go_simp
                          with_reducible rfl
                        rotate_left
                        · simp only [Act.put, List.setIfInBounds_toArray, List.set_cons_zero, List.set_cons_succ, i64_w, i32_w]
                          rfl
                        refine take_ (i := 8) (N := some 36) (v := ?_) (a' := ?_) #[true, true, true, true, true, true, true, true, true, false, false, false] rfl rfl (take_ofW HT_.out HW_.out (by kernel_rfl)) (fun _ _ _ h => h) (Or.inl ⟨by rfl, ?_⟩) hHeld ?_ ?_
                        rotate_left
                        · rintro w' ⟨s0, s1, s2, s3, s4⟩
                          go_simp
                          with_reducible rfl
                        rotate_left
                        · simp only [Act.put, List.setIfInBounds_toArray, List.set_cons_zero, List.set_cons_succ, i64_w, i32_w]
                          rfl
                        refine pure_ (i := 9) (N := some 37) (v := ?_) (a' := ?_) #[true, true, true, true, true, true, true, true, true, true, false, false] rfl rfl (any_of HT_.out (by kernel_rfl)) (fun _ _ _ h => h) (Or.inl ⟨by rfl, ?_⟩) ?_ ?_
                        rotate_left
                        · intro w'
                          first | (go_simp; with_reducible rfl) | (go_simp; rw [if_neg (by (have hone_ : ∀ b : UInt8, (ByteArray.mk #[b]).size = 1 := fun _ => rfl); (simp only [decide_eq_true_eq, ByteArray.size_extract, ByteArray.size_append, hone_] at *); omega)]; try with_reducible rfl)
                        rotate_left
                        · simp only [Act.put, List.setIfInBounds_toArray, List.set_cons_zero, List.set_cons_succ, i64_w, i32_w]
                          rfl
                        refine one_ (i := 10) (N := some 38) #[true, true, true, true, true, true, true, true, true, true, true, false] rfl rfl (one_of HT_.out (by kernel_rfl)) (by decide) (fun K hK => ?_)
                        refine goes_ Tryd.func66 (by kernel_rfl) rfl #[.string (rdOf ByteArray.empty l1_1 x8_1), .int .i64 ji13] (by rfl) rfl rfl (by (try simp only [List.map_toArray, List.map_cons, List.map_nil]); first | done | (simp only [hji13]; rfl) | rfl | (simp only [List.length_drop, List.length_take]; rfl)) ?_
                        with_reducible refine (planisphereref02_chained.calls (rdOf ByteArray.empty l1_1 x8_1) ji13 t149 _ A11.out).mono ?_
                        rintro e w20 ⟨v150, rfl, ho0, hb⟩
                        have HS4_ := (hb.cell (World.block_lt_of_cell? _ _ (hHeld.2.2.2.2))).trans (hHeld.2.2.2.2)
                        refine ⟨_, rfl, ?_⟩
                        have n0_ := Aside0.mk (Kd.R_below (by (with_reducible repeat (first | apply Kd.R_alloc | apply Kd.R_drewN | apply Kd.R_drew)); exact HO_5.out) hb)
                        have n1_ := Aside0.mk (Kd.R_elder' (by (with_reducible repeat (first | apply Kd.R_alloc | apply Kd.R_drewN | apply Kd.R_drew)); exact HO_6.out) (Kd.R_base ho0) hb)
                        have n2_ := Aside0.mk (Kd.R_elder' (by (with_reducible repeat (first | apply Kd.R_alloc | apply Kd.R_drewN | apply Kd.R_drew)); exact HO_7.out) (Kd.R_base ho0) hb)
                        have n3_ := Aside0.mk (Kd.R_lower (Kd.R_new' (Kd.R_new' ho0 (Kd.R_lt (by (with_reducible repeat (first | apply Kd.R_alloc | apply Kd.R_drewN | apply Kd.R_drew)); exact HO_6.out))) (Kd.R_lt (by (with_reducible repeat (first | apply Kd.R_alloc | apply Kd.R_drewN | apply Kd.R_drew)); exact HO_7.out))) (below_size (by repeat (first | (with_reducible first | exact HB.out | apply below_alloc | apply pw_below_drewN | apply below_drew1 | refine below_set ?_ GE143.out) | exact HB.out))))
                        have n4_ := Aside0.mk (blk_below (g := gb143) (o := .cells #[.int .i64 a1_0, .slice (some ad147) l1_1.length c1_1, .slice A1_2 l1_2.length c1_2] 35 (0, 0)) (by (with_reducible repeat (first | refine blk_drewN ?_ _ | refine blk_drew ?_ | refine blk_alloc ?_ _)); exact BK143.out) hb)
                        have n5_ := Aside0.mk (below_step (by repeat (first | (with_reducible first | exact HB.out | apply below_alloc | apply pw_below_drewN | apply below_drew1 | refine below_set ?_ GE143.out) | exact HB.out)) hb)
                        clear HO_5
                        clear HO_6
                        clear HO_7
                        clear BK143
                        clear HB
                        have HO_5 := n0_
                        have HO_6 := n1_
                        have HO_7 := n2_
                        have HO151 := n3_
                        have BK143 := n4_
                        have HB := n5_
                        clear n0_ n1_ n2_ n3_ n4_ n5_
                        (try clear hb)
                        (try clear hb2)
                        (try clear hk)
                        (try clear hi)
                        (try clear ho0)
                        refine hK.out _ _ ⟨(blk_cell BK143.out 0).trans rfl, (blk_cell BK143.out 1).trans rfl, (blk_cell BK143.out 2).trans rfl, ((HB.out.cell (World.block_lt_of_cell? w _ hw147_0)).trans hw147_0), HS4_⟩ (fun hHeld => ?_)
                        clear hK K
                        refine norm_ (a' := ?_) ?_ ?_
                        rotate_left
                        · show Act.put _ (some 38) _ = _
                          simp only [Act.put, List.setIfInBounds_toArray, List.set_cons_zero, List.set_cons_succ, i64_w, i32_w]
                          rfl
                        refine pure_ (i := 11) (N := some 9) (v := ?_) (a' := ?_) #[true, true, true, true, true, true, true, true, true, true, true, true] rfl rfl (any_of HT_.out (by kernel_rfl)) (fun _ _ _ h => h) (Or.inl ⟨by rfl, ?_⟩) ?_ ?_
                        rotate_left
                        · intro w'
                          first | (go_simp; with_reducible rfl) | (go_simp; rw [if_neg (by (have hone_ : ∀ b : UInt8, (ByteArray.mk #[b]).size = 1 := fun _ => rfl); (simp only [decide_eq_true_eq, ByteArray.size_extract, ByteArray.size_append, hone_] at *); omega)]; try with_reducible rfl)
                        rotate_left
                        · simp only [Act.put, List.setIfInBounds_toArray, List.set_cons_zero, List.set_cons_succ, i64_w, i32_w]
                          rfl
                        refine done_ (done_of HT_.out (by kernel_rfl)) ?_
                        obtain ⟨Ao22, co22, eo22⟩ := Kd.R_slice HO151.out
                        subst eo22
                        try go_wp2_with (first | ((with_reducible refine gate_builtin (b := .append) (xs := #[.tmp 39, .tmp 40]) rfl ?_); (try (refine gate_guard (by rfl) ?_; dsimp only)); at_builtin; refine Kd.R_append_rows Kd.string (w0 := w) w.heap.size rfl (.tmp 39) (.tmp 40) 22 9 (.string ⟨#[]⟩) 16 rfl Tryd.underlying22 info9 rfl (by decide) (by omega) u6 x6_1 t149 _ _ _ (fun k_ => some k_ ≠ (u7 : Value).ownBlock ∧ some k_ ≠ (.slice Ao22 t149.length co22 : Value).ownBlock) (fun _ => False) rfl rfl ?aO ?aR (fun _ _ h => h) (fun _ h => h.elim) ?aF ?aB ?aS ?aL ?_; (case aR => repeat (first | exact (Kd.R_reads' HO151.out).2.2 | (with_reducible refine Kd.C_alloc ?_ _) | (with_reducible refine Kd.C_drewN ?_ _) | (with_reducible refine Kd.C_drew ?_))); (case aB => exact (by repeat (first | (with_reducible first | exact HB.out | apply below_alloc | apply pw_below_drewN | apply below_drew1 | refine below_set ?_ GE143.out) | exact HB.out))); (case aF => exact (fun k_ hk => ⟨Kd.fresh' (Kd.R_lt (by (with_reducible repeat (first | apply Kd.R_alloc | apply Kd.R_drewN | apply Kd.R_drew)); exact HO_7.out)) k_ hk, Kd.fresh' (Kd.R_lt (by (with_reducible repeat (first | apply Kd.R_alloc | apply Kd.R_drewN | apply Kd.R_drew)); exact HO151.out)) k_ hk⟩)); (case aO => exact (by (with_reducible repeat (first | apply Kd.R_alloc | apply Kd.R_drewN | apply Kd.R_drew)); exact HO_6.out)); (case aS => exact (below_size (by repeat (first | (with_reducible first | exact HB.out | apply below_alloc | apply pw_below_drewN | apply below_drew1 | refine below_set ?_ GE143.out) | exact HB.out)))); (case aL => have := LMc12.out; omega); intro v153 w21 ho hb hg hat; rw [← Ny152.out] at ho; have n0_ := Aside0.mk (Kd.R_over' (by (with_reducible repeat (first | apply Kd.R_alloc | apply Kd.R_drewN | apply Kd.R_drew)); exact HO_5.out) (Kd.R_typed (by (with_reducible repeat (first | apply Kd.R_alloc | apply Kd.R_drewN | apply Kd.R_drew)); exact HO_6.out)) (by decide) hg); have n1_ := Aside0.mk (Kd.R_after (ok := (fun k_ => some k_ ≠ (.slice Ao22 t149.length co22 : Value).ownBlock)) (by (with_reducible repeat (first | apply Kd.R_alloc | apply Kd.R_drewN | apply Kd.R_drew)); exact Kd.R_mono HO_7.out (fun _ hk => ⟨hk.2, hk.1⟩)) hg hat); have n2_ := Aside0.mk (blk_grown (g := gb143) (o := .cells #[.int .i64 a1_0, .slice (some ad147) l1_1.length c1_1, .slice A1_2 l1_2.length c1_2] 35 (0, 0)) (by (with_reducible repeat (first | refine blk_drewN ?_ _ | refine blk_drew ?_ | refine blk_alloc ?_ _)); exact BK143.out) hg (Kd.R_ne HO_6.out BK143.out (by decide))); have n3_ := Aside0.mk (Kd.R_after (ok := (fun k_ => some k_ ≠ (u7 : Value).ownBlock)) (by (with_reducible repeat (first | apply Kd.R_alloc | apply Kd.R_drewN | apply Kd.R_drew)); exact Kd.R_mono HO151.out (fun _ hk => ⟨hk.2, hk.1.2⟩)) hg hat); have n4_ := Aside0.mk (hb); have n5_ := Aside0.mk (ho); clear HO_5; clear HO_7; clear BK143; clear HO151; clear HB; clear HO_6; have HO_5 := n0_; have HO_7 := n1_; have BK143 := n2_; have HO151 := n3_; have HB := n4_; have HO154 := n5_; clear n0_ n1_ n2_ n3_ n4_ n5_; clear ho hb hg hat; have p155 : 0 ≤ (x8_1 : Int) := of_decide_eq_true (by first | (with_reducible assumption) | assumption); have q155 : x8_1 < (t144.length : Int) := of_decide_eq_true (by first | (with_reducible assumption) | assumption); obtain ⟨ad155, e155, hx155_0⟩ := Kd.at_int (Kd.R_reads' HO_5.out).2.2 x8_1 p155 q155; obtain rfl : ad148 = ad155 := (by injection e155); replace p155 := eq_true p155; replace q155 := eq_true q155; have p156 : 0 ≤ ((ji13) : Int) := of_decide_eq_true (by first | (with_reducible assumption) | assumption); have q156 : (ji13) < (t149.length : Int) := of_decide_eq_true (by first | (with_reducible assumption) | assumption); obtain ⟨ad156, e156, hx156_0⟩ := Kd.at_string (Kd.R_reads' HO151.out).2.2 (ji13) p156 q156; cases e156; replace p156 := eq_true p156; replace q156 := eq_true q156) | ((with_reducible refine gate_builtin (b := .append) (xs := #[.tmp 42, .tmp 51]) rfl ?_); (try (refine gate_guard (by rfl) ?_; dsimp only)); at_builtin; refine Kd.R_append Kd.string (w0 := w) w.heap.size rfl (.tmp 42) (.tmp 51) 22 9 (.string ⟨#[]⟩) 16 rfl Tryd.underlying22 info9 rfl (by decide) (by omega) u7 x7_1 (rdOf ByteArray.empty t149 (ji13)) [.string (rdOf ByteArray.empty t149 (ji13))] (fun k_ => some k_ ≠ (.slice (some ad156) t149.length co22 : Value).ownBlock ∧ some k_ ≠ (v153 : Value).ownBlock) (fun _ => False) rfl rfl ?aP (fun _ hk => hk.elim) ?aF ?aO ?aB ?aS ?aL ?_; (case aP => exact rfl); (case aB => exact (by repeat (first | (with_reducible first | exact HB.out | apply below_alloc | apply pw_below_drewN | apply below_drew1 | refine below_set ?_ GE143.out) | exact HB.out))); (case aF => exact (fun k_ hk => ⟨Kd.fresh' (Kd.R_lt (by (with_reducible repeat (first | apply Kd.R_alloc | apply Kd.R_drewN | apply Kd.R_drew)); exact HO151.out)) k_ hk, Kd.fresh' (Kd.R_lt (by (with_reducible repeat (first | apply Kd.R_alloc | apply Kd.R_drewN | apply Kd.R_drew)); exact HO154.out)) k_ hk⟩)); (case aO => exact (by (with_reducible repeat (first | apply Kd.R_alloc | apply Kd.R_drewN | apply Kd.R_drew)); exact HO_7.out)); (case aS => exact (below_size (by repeat (first | (with_reducible first | exact HB.out | apply below_alloc | apply pw_below_drewN | apply below_drew1 | refine below_set ?_ GE143.out) | exact HB.out)))); (case aL => have := LMc16.out; omega); intro v158 w23 ho hb hg hat; rw [← Ny157.out] at ho; have n0_ := Aside0.mk (Kd.R_over' (by (with_reducible repeat (first | apply Kd.R_alloc | apply Kd.R_drewN | apply Kd.R_drew)); exact HO_5.out) (Kd.R_typed (by (with_reducible repeat (first | apply Kd.R_alloc | apply Kd.R_drewN | apply Kd.R_drew)); exact HO_7.out)) (by decide) hg); have n1_ := Aside0.mk (blk_grown (g := gb143) (o := .cells #[.int .i64 a1_0, .slice (some ad147) l1_1.length c1_1, .slice A1_2 l1_2.length c1_2] 35 (0, 0)) (by (with_reducible repeat (first | refine blk_drewN ?_ _ | refine blk_drew ?_ | refine blk_alloc ?_ _)); exact BK143.out) hg (Kd.R_ne HO_7.out BK143.out (by decide))); have n2_ := Aside0.mk (Kd.R_after (ok := (fun k_ => some k_ ≠ (v153 : Value).ownBlock)) (by (with_reducible repeat (first | apply Kd.R_alloc | apply Kd.R_drewN | apply Kd.R_drew)); exact Kd.R_mono HO151.out (fun _ hk => ⟨hk.2, hk.1⟩)) hg hat); have n3_ := Aside0.mk (Kd.R_after (ok := (fun k_ => some k_ ≠ (.slice (some ad156) t149.length co22 : Value).ownBlock)) (by (with_reducible repeat (first | apply Kd.R_alloc | apply Kd.R_drewN | apply Kd.R_drew)); exact Kd.R_mono HO154.out (fun _ hk => ⟨hk.2, hk.1⟩)) hg hat); have n4_ := Aside0.mk (hb); have n5_ := Aside0.mk (ho); clear HO_5; clear BK143; clear HO151; clear HO154; clear HB; clear HO_7; have HO_5 := n0_; have BK143 := n1_; have HO151 := n2_; have HO154 := n3_; have HB := n4_; have HO159 := n5_; clear n0_ n1_ n2_ n3_ n4_ n5_; clear ho hb hg hat))
                        go_roundg k1
                        case measure => have := HK1.out; omega
                        case rel => exact ⟨(y152), (y157), (wrap64 (x8_1 + 1)), (by first | rfl | (simp; done) | (simp [*]; done)), H', ⟨by have := HK1.out; omega⟩, ⟨by (with_reducible repeat (first | apply Kd.R_alloc | apply Kd.R_drewN | apply Kd.R_drew)); exact HO_5.out⟩, ⟨by (with_reducible repeat (first | apply Kd.R_alloc | apply Kd.R_drewN | apply Kd.R_drew)); exact Kd.R_mono HO154.out (fun _ hk => hk.2)⟩, ⟨by (with_reducible repeat (first | apply Kd.R_alloc | apply Kd.R_drewN | apply Kd.R_drew)); exact Kd.R_mono HO159.out (fun _ hk => hk.2)⟩, ⟨by (with_reducible repeat (first | refine blk_drewN ?_ _ | refine blk_drew ?_ | refine blk_alloc ?_ _)); exact BK143.out⟩, ⟨by repeat (first | (with_reducible first | exact HB.out | apply below_alloc | apply pw_below_drewN | apply below_drew1 | refine below_set ?_ GE143.out) | exact HB.out)⟩⟩
                      · rw [if_neg c16] at H
                        exact absurd H (by simp)
                    · rw [if_neg c15] at H
                      exact absurd H (by simp)
                  · rw [if_neg c14] at H
                    exact absurd H (by simp)
                · rw [if_neg c12] at H
                  exact absurd H (by simp)
              · rw [if_neg c10] at H
                exact absurd H (by simp)
            · rw [if_neg c9] at H
              exact absurd H (by simp)
          · rw [if_neg c8] at H
            have c8b0 : decide (x8_1 < (l1_1.length : Int)) = false := decide_eq_false c8
            clear c8
            have H' := Aside0.mk H
            clear H
            have hcz24_0 : wr.cell? ⟨gb143, 0, none⟩ = some (.int .i64 a1_0) := (blk_cell BK143.out 0).trans rfl
            have hcz24_1 : wr.cell? ⟨gb143, 1, none⟩ = some (.slice A1_1 l1_1.length c1_1) := (blk_cell BK143.out 1).trans rfl
            have hcz24_2 : wr.cell? ⟨gb143, 2, none⟩ = some (.slice A1_2 l1_2.length c1_2) := (blk_cell BK143.out 2).trans rfl
            have hfz24_0 := blk_frozen BK143.out 0
            have hfz24_1 := blk_frozen BK143.out 1
            have hfz24_2 := blk_frozen BK143.out 2
            go_wp2
            go_meet
            case rel => exact ⟨_, (x6_1), (x7_1), H', ⟨by have := HK1.out; first | omega | exact Nat.le_refl _⟩, ⟨by (with_reducible repeat (first | apply Kd.R_alloc | apply Kd.R_drewN | apply Kd.R_drew)); exact HO_6.out⟩, ⟨by (with_reducible repeat (first | apply Kd.R_alloc | apply Kd.R_drewN | apply Kd.R_drew)); exact HO_7.out⟩, ⟨by (with_reducible repeat (first | refine blk_drewN ?_ _ | refine blk_drew ?_ | refine blk_alloc ?_ _)); exact BK143.out⟩, ⟨by repeat (first | (with_reducible first | exact HB.out | apply below_alloc | apply pw_below_drewN | apply below_drew1 | refine below_set ?_ GE143.out) | exact HB.out)⟩⟩
        · rw [if_neg c7] at H
          have c7b0 : decide (x8_1 < 18) = false := decide_eq_false c7
          clear c7
          (first | rw [c7b0] | (simp only [i64_w, i32_w]; rw [c7b0]) | skip)
          have H' := Aside0.mk H
          clear H
          go_wp2
          go_meet
          case rel => exact ⟨_, (x6_1), (x7_1), H', ⟨by have := HK1.out; first | omega | exact Nat.le_refl _⟩, ⟨by (with_reducible repeat (first | apply Kd.R_alloc | apply Kd.R_drewN | apply Kd.R_drew)); exact HO_6.out⟩, ⟨by (with_reducible repeat (first | apply Kd.R_alloc | apply Kd.R_drewN | apply Kd.R_drew)); exact HO_7.out⟩, ⟨by (with_reducible repeat (first | refine blk_drewN ?_ _ | refine blk_drew ?_ | refine blk_alloc ?_ _)); exact BK143.out⟩, ⟨by repeat (first | (with_reducible first | exact HB.out | apply below_alloc | apply pw_below_drewN | apply below_drew1 | refine below_set ?_ GE143.out) | exact HB.out)⟩⟩
  case rest =>
    clear HC4
    try clear c1
    try clear p1
    try clear q1
    try clear hx1
    try clear p2
    try clear c3
    try clear c5
    try clear c6
    try clear p6
    try clear c7
    try clear c7b0
    try clear c8
    try clear c8b0
    try clear c9
    try clear c9b0
    try clear c10
    try clear c10b0
    try clear c12
    try clear c14
    try clear c14b0
    try clear p14
    try clear q14
    try clear hx14
    try clear c15
    try clear c15b0
    try clear p15
    try clear q15
    try clear hx15
    try clear c16
    try clear hcz17_0
    try clear hcz17_1
    try clear hcz17_2
    try clear hcz24_0
    try clear hcz24_1
    try clear hcz24_2
    try clear hfz17_0
    try clear hfz17_1
    try clear hfz17_2
    try clear hfz24_0
    try clear hfz24_1
    try clear hfz24_2
    try clear hx147_0
    try clear hx148_0
    try clear hx155_0
    try clear hx156_0
    try clear p147
    try clear p148
    try clear p155
    try clear p156
    try clear p2
    try clear q147
    try clear q148
    try clear q155
    try clear q156
    obtain ⟨kq, x6_3, x7_3, HA, HJ3, HO_6, HO_7, BK143, HB⟩ := hcut
    cases kq with
    | zero => exact absurd HA.out (by simp [planisphereref02_Checked.j1])
    | succ kj3 =>
      have H := HA.out
      clear HA
      simp only [planisphereref02_Checked.j1] at H
      replace H := Option.bind_eq_some_iff.mp H
      obtain ⟨t160, A250, H⟩ := H
      replace H : (if x6_3.length < 8796093022208 then ((planisphereref01_Sum.f t160).bind fun t164 => (planisphereref02_Checked.l1 kj3 (x6_3 ++ [t160]) t164 a1_0 0 a1_0 l1_1 l1_2)) else (none)) = some r := H
      have A25 := Aside0.mk A250
      clear A250
      by_cases c26 : x6_3.length < 8796093022208
      · rw [if_pos c26] at H
        have LMc26 := Aside0.mk c26
        clear c26
        obtain ⟨y161, hy161⟩ : ∃ y_ : List ByteArray, y_ = (x6_3 ++ [t160]) := ⟨_, rfl⟩
        replace H : ((planisphereref01_Sum.f t160).bind fun t164 => (planisphereref02_Checked.l1 kj3 y161 t164 a1_0 0 a1_0 l1_1 l1_2)) = some r := by first | (rw [hy161]; with_reducible exact H) | (have H2_ := (Option.bind_some _ _).symm.trans H; rw [hy161]; with_reducible exact H2_) | (have H2_ := (Option.bind_some _ _).symm.trans H; with_reducible exact H2_) | with_reducible exact H | (rw [hy161]; exact H) | exact H
        have Ny161 := Aside0.mk hy161
        clear hy161
        replace H := Option.bind_eq_some_iff.mp H
        obtain ⟨t164, A270, H⟩ := H
        replace H : (planisphereref02_Checked.l1 kj3 y161 t164 a1_0 0 a1_0 l1_1 l1_2) = some r := H
        have A27 := Aside0.mk A270
        clear A270
        have H' := Aside0.mk H
        clear H
        obtain ⟨Ao28, co28, eo28⟩ := Kd.R_slice HO_7.out
        subst eo28
        go_wp2_with (first | ((with_reducible refine gate_callee (f := 23) rfl ?_); refine goesL_ (some 54) rfl rfl Tryd.func23 (by kernel_rfl) rfl #[.slice Ao28 x7_3.length co28] rfl (by (try simp only [List.map_toArray, List.map_cons, List.map_nil]); first | done | rfl | (simp only [List.length_drop, List.length_take]; rfl)) ?_; (with_reducible refine (planisphereref01_Joined.calls _ _ x7_3 t160 _ ?side1 ?side2 A25.out).mono ?_); clear A25; (case side1 => repeat (first | exact (Kd.R_reads' HO_7.out).2.2 | (with_reducible refine Kd.C_alloc ?_ _) | (with_reducible refine Kd.C_drewN ?_ _) | (with_reducible refine Kd.C_drew ?_))); (case side2 => exact (Kd.R_reads' HO_7.out).2.1); rintro e w29 ⟨rfl, hb⟩; refine ⟨_, rfl, ?_⟩; have n0_ := Aside0.mk (Kd.R_below (by (with_reducible repeat (first | apply Kd.R_alloc | apply Kd.R_drewN | apply Kd.R_drew)); exact HO_6.out) hb); have n1_ := Aside0.mk (Kd.R_below (by (with_reducible repeat (first | apply Kd.R_alloc | apply Kd.R_drewN | apply Kd.R_drew)); exact HO_7.out) hb); have n2_ := Aside0.mk (blk_below (g := gb143) (o := .cells #[.int .i64 a1_0, .slice A1_1 l1_1.length c1_1, .slice A1_2 l1_2.length c1_2] 35 (0, 0)) (by (with_reducible repeat (first | refine blk_drewN ?_ _ | refine blk_drew ?_ | refine blk_alloc ?_ _)); exact BK143.out) hb); have n3_ := Aside0.mk (below_step (by repeat (first | (with_reducible first | exact HB.out | apply below_alloc | apply pw_below_drewN | apply below_drew1 | refine below_set ?_ GE143.out) | exact HB.out)) hb); clear HO_6; clear HO_7; clear BK143; clear HB; have HO_6 := n0_; have HO_7 := n1_; have BK143 := n2_; have HB := n3_; clear n0_ n1_ n2_ n3_; (try clear hb); (try clear hb2); (try clear hk); (try clear hi)) | ((with_reducible refine gate_builtin (b := .append) (xs := #[.tmp 55, .tmp 57]) rfl ?_); (try (refine gate_guard (by rfl) ?_; dsimp only)); at_builtin; refine Kd.R_append Kd.string (w0 := w) w.heap.size rfl (.tmp 55) (.tmp 57) 22 9 (.string ⟨#[]⟩) 16 rfl Tryd.underlying22 info9 rfl (by decide) (by omega) u6 x6_3 t160 [.string t160] (fun k_ => some k_ ≠ (.slice Ao28 x7_3.length co28 : Value).ownBlock) (fun _ => False) rfl rfl ?aP (fun _ hk => hk.elim) ?aF ?aO ?aB ?aS ?aL ?_; (case aP => exact rfl); (case aB => exact (by repeat (first | (with_reducible first | exact HB.out | apply below_alloc | apply pw_below_drewN | apply below_drew1 | refine below_set ?_ GE143.out) | exact HB.out))); (case aF => exact (fun k_ hk => Kd.fresh' (Kd.R_lt (by (with_reducible repeat (first | apply Kd.R_alloc | apply Kd.R_drewN | apply Kd.R_drew)); exact HO_7.out)) k_ hk)); (case aO => exact (by (with_reducible repeat (first | apply Kd.R_alloc | apply Kd.R_drewN | apply Kd.R_drew)); exact HO_6.out)); (case aS => exact (below_size (by repeat (first | (with_reducible first | exact HB.out | apply below_alloc | apply pw_below_drewN | apply below_drew1 | refine below_set ?_ GE143.out) | exact HB.out)))); (case aL => have := LMc26.out; omega); intro v162 w30 ho hb hg hat; rw [← Ny161.out] at ho; have n0_ := Aside0.mk (Kd.R_after (ok := (fun _ => True)) (by (with_reducible repeat (first | apply Kd.R_alloc | apply Kd.R_drewN | apply Kd.R_drew)); exact Kd.R_mono HO_7.out (fun _ hk => ⟨trivial, hk⟩)) hg hat); have n1_ := Aside0.mk (blk_grown (g := gb143) (o := .cells #[.int .i64 a1_0, .slice A1_1 l1_1.length c1_1, .slice A1_2 l1_2.length c1_2] 35 (0, 0)) (by (with_reducible repeat (first | refine blk_drewN ?_ _ | refine blk_drew ?_ | refine blk_alloc ?_ _)); exact BK143.out) hg (Kd.R_ne HO_6.out BK143.out (by decide))); have n2_ := Aside0.mk (hb); have n3_ := Aside0.mk (ho); clear HO_7; clear BK143; clear HB; clear HO_6; have HO_7 := n0_; have BK143 := n1_; have HB := n2_; have HO163 := n3_; clear n0_ n1_ n2_ n3_; clear ho hb hg hat) | ((with_reducible refine gate_callee (f := 18) rfl ?_); refine goesL_ (some 60) rfl rfl Tryd.func18 (by kernel_rfl) rfl #[.string t160] rfl (by (try simp only [List.map_toArray, List.map_cons, List.map_nil]); first | done | rfl | (simp only [List.length_drop, List.length_take]; rfl)) ?_; (with_reducible refine (planisphereref01_Sum.callsB t160 t164 _ A27.out).mono ?_); clear A27; rintro e w31 ⟨rfl, hb⟩; refine ⟨_, rfl, ?_⟩; have n0_ := Aside0.mk (Kd.R_below (by (with_reducible repeat (first | apply Kd.R_alloc | apply Kd.R_drewN | apply Kd.R_drew)); exact HO_7.out) hb); have n1_ := Aside0.mk (Kd.R_below (by (with_reducible repeat (first | apply Kd.R_alloc | apply Kd.R_drewN | apply Kd.R_drew)); exact HO163.out) hb); have n2_ := Aside0.mk (blk_below (g := gb143) (o := .cells #[.int .i64 a1_0, .slice A1_1 l1_1.length c1_1, .slice A1_2 l1_2.length c1_2] 35 (0, 0)) (by (with_reducible repeat (first | refine blk_drewN ?_ _ | refine blk_drew ?_ | refine blk_alloc ?_ _)); exact BK143.out) hb); have n3_ := Aside0.mk (below_step (by repeat (first | (with_reducible first | exact HB.out | apply below_alloc | apply pw_below_drewN | apply below_drew1 | refine below_set ?_ GE143.out) | exact HB.out)) hb); clear HO_7; clear HO163; clear BK143; clear HB; have HO_7 := n0_; have HO163 := n1_; have BK143 := n2_; have HB := n3_; clear n0_ n1_ n2_ n3_; (try clear hb); (try clear hb2); (try clear hk); (try clear hi); have hcz32_0 : w31.cell? ⟨gb143, 0, none⟩ = some (.int .i64 a1_0) := (blk_cell BK143.out 0).trans rfl; have hcz32_1 : w31.cell? ⟨gb143, 1, none⟩ = some (.slice A1_1 l1_1.length c1_1) := (blk_cell BK143.out 1).trans rfl; have hcz32_2 : w31.cell? ⟨gb143, 2, none⟩ = some (.slice A1_2 l1_2.length c1_2) := (blk_cell BK143.out 2).trans rfl; have hfz32_0 := blk_frozen BK143.out 0; have hfz32_1 := blk_frozen BK143.out 1; have hfz32_2 := blk_frozen BK143.out 2))
        go_loopg [6, 11, 12, 13] kj3 (fun kq v6 v11 v12 v13 w' => ∃ (x6_2 : List ByteArray) (x11_2 : ByteArray) (x12_2 : Int) (x13_2 : Int), v11 = .string x11_2 ∧ v12 = .int .i64 x12_2 ∧ v13 = .int .i64 x13_2 ∧ Aside0 (planisphereref02_Checked.l1 kq x6_2 x11_2 x12_2 x13_2 a1_0 l1_1 l1_2 = some r) ∧ Aside0 (kq ≤ kj3) ∧ Aside0 (Kd.R Kd.string 9 w' w.heap.size (fun _ => True) v6 x6_2) ∧ Aside0 (w'.heap[gb143]? = some (.cells #[.int .i64 a1_0, (.slice A1_1 l1_1.length c1_1), (.slice A1_2 l1_2.length c1_2)] 35 (0, 0))) ∧ Aside0 (Below w.heap.size w w'))
        case atStart => exact ⟨(y161), (t164), (a1_0), (0), (by first | rfl | (simp; done) | (simp [*]; done)), (by first | rfl | (simp; done) | (simp [*]; done)), (by first | rfl | (simp; done) | (simp [*]; done)), H', ⟨Nat.le_refl _⟩, ⟨by (with_reducible repeat (first | apply Kd.R_alloc | apply Kd.R_drewN | apply Kd.R_drew)); exact Kd.R_mono HO163.out (fun _ hk => trivial)⟩, ⟨by (with_reducible repeat (first | refine blk_drewN ?_ _ | refine blk_drew ?_ | refine blk_alloc ?_ _)); exact BK143.out⟩, ⟨by repeat (first | (with_reducible first | exact HB.out | apply below_alloc | apply pw_below_drewN | apply below_drew1 | refine below_set ?_ GE143.out) | exact HB.out)⟩⟩
        case round =>
          clear H'
          try clear c1
          try clear p1
          try clear q1
          try clear hx1
          try clear c2
          try clear p2
          try clear c3
          try clear c5
          try clear c6
          try clear p6
          try clear c7
          try clear c7b0
          try clear c8
          try clear c8b0
          try clear c9
          try clear c9b0
          try clear c10
          try clear c10b0
          try clear c12
          try clear c14
          try clear c14b0
          try clear p14
          try clear q14
          try clear hx14
          try clear c15
          try clear c15b0
          try clear p15
          try clear q15
          try clear hx15
          try clear c16
          try clear c18
          try clear c23
          try clear c26
          try clear hcz17_0
          try clear hcz17_1
          try clear hcz17_2
          try clear hcz24_0
          try clear hcz24_1
          try clear hcz24_2
          try clear hcz32_0
          try clear hcz32_1
          try clear hcz32_2
          try clear hfz17_0
          try clear hfz17_1
          try clear hfz17_2
          try clear hfz24_0
          try clear hfz24_1
          try clear hfz24_2
          try clear hfz32_0
          try clear hfz32_1
          try clear hfz32_2
          try clear hx147_0
          try clear hx148_0
          try clear hx155_0
          try clear hx156_0
          try clear p1
          try clear p14
          try clear p147
          try clear p148
          try clear p15
          try clear p155
          try clear p156
          try clear p2
          try clear p6
          try clear q1
          try clear q14
          try clear q147
          try clear q148
          try clear q15
          try clear q155
          try clear q156
          obtain ⟨x6_2, x11_2, x12_2, x13_2, rfl, rfl, rfl, HA, HK2, HO_6, BK143, HB⟩ := hrel
          cases gk with
          | zero => exact absurd HA.out (by simp [planisphereref02_Checked.l1])
          | succ k2 =>
            have H := HA.out
            clear HA
            simp only [planisphereref02_Checked.l1] at H
            by_cases c33 : x13_2 < (l1_2.length : Int)
            · rw [if_pos c33] at H
              have c33b0 : decide (x13_2 < (l1_2.length : Int)) = true := decide_eq_true c33
              clear c33
              by_cases c34 : 0 ≤ x13_2
              · rw [if_pos c34] at H
                have c34b0 : decide (0 ≤ x13_2) = true := decide_eq_true c34
                clear c34
                replace H := Option.bind_eq_some_iff.mp H
                obtain ⟨t166, A350, H⟩ := H
                replace H : (if (Int.tmod x12_2 2) = 1 then ((planisphereref02_node.f (rdOf ByteArray.empty l1_2 x13_2) x11_2).bind fun t168 => (if x6_2.length < 8796093022208 then ((planisphereref01_Sum.f t168).bind fun t172 => (planisphereref02_Checked.l1 k2 (x6_2 ++ [t168]) t172 (wrap64 (Int.tdiv x12_2 2)) (wrap64 (x13_2 + 1)) a1_0 l1_1 l1_2)) else (none))) else (if x6_2.length < 8796093022208 then ((planisphereref01_Sum.f t166).bind fun t176 => (planisphereref02_Checked.l1 k2 (x6_2 ++ [t166]) t176 (wrap64 (Int.tdiv x12_2 2)) (wrap64 (x13_2 + 1)) a1_0 l1_1 l1_2)) else (none))) = some r := H
                have A35 := Aside0.mk A350
                clear A350
                by_cases c36 : (Int.tmod x12_2 2) = 1
                · rw [if_pos c36] at H
                  have c36b0 : ((Int.tmod x12_2 2) == 1) = true := beq_iff_eq.mpr c36
                  have c36b1 : ((Int.tmod x12_2 2) != 1) = false := bne_eq_false_iff_eq.mpr c36
                  clear c36
                  replace H := Option.bind_eq_some_iff.mp H
                  obtain ⟨t168, A370, H⟩ := H
                  replace H : (if x6_2.length < 8796093022208 then ((planisphereref01_Sum.f t168).bind fun t172 => (planisphereref02_Checked.l1 k2 (x6_2 ++ [t168]) t172 (wrap64 (Int.tdiv x12_2 2)) (wrap64 (x13_2 + 1)) a1_0 l1_1 l1_2)) else (none)) = some r := H
                  have A37 := Aside0.mk A370
                  clear A370
                  by_cases c38 : x6_2.length < 8796093022208
                  · rw [if_pos c38] at H
                    have LMc38 := Aside0.mk c38
                    clear c38
                    obtain ⟨y169, hy169⟩ : ∃ y_ : List ByteArray, y_ = (x6_2 ++ [t168]) := ⟨_, rfl⟩
                    replace H : ((planisphereref01_Sum.f t168).bind fun t172 => (planisphereref02_Checked.l1 k2 y169 t172 (wrap64 (Int.tdiv x12_2 2)) (wrap64 (x13_2 + 1)) a1_0 l1_1 l1_2)) = some r := by first | (rw [hy169]; with_reducible exact H) | (have H2_ := (Option.bind_some _ _).symm.trans H; rw [hy169]; with_reducible exact H2_) | (have H2_ := (Option.bind_some _ _).symm.trans H; with_reducible exact H2_) | with_reducible exact H | (rw [hy169]; exact H) | exact H
                    have Ny169 := Aside0.mk hy169
                    clear hy169
                    replace H := Option.bind_eq_some_iff.mp H
                    obtain ⟨t172, A390, H⟩ := H
                    replace H : (planisphereref02_Checked.l1 k2 y169 t172 (wrap64 (Int.tdiv x12_2 2)) (wrap64 (x13_2 + 1)) a1_0 l1_1 l1_2) = some r := H
                    have A39 := Aside0.mk A390
                    clear A390
                    have H' := Aside0.mk H
                    clear H
                    have hcz40_0 : wr.cell? ⟨gb143, 0, none⟩ = some (.int .i64 a1_0) := (blk_cell BK143.out 0).trans rfl
                    have hcz40_1 : wr.cell? ⟨gb143, 1, none⟩ = some (.slice A1_1 l1_1.length c1_1) := (blk_cell BK143.out 1).trans rfl
                    have hcz40_2 : wr.cell? ⟨gb143, 2, none⟩ = some (.slice A1_2 l1_2.length c1_2) := (blk_cell BK143.out 2).trans rfl
                    have hfz40_0 := blk_frozen BK143.out 0
                    have hfz40_1 := blk_frozen BK143.out 1
                    have hfz40_2 := blk_frozen BK143.out 2
                    have p165 : 0 ≤ (x13_2 : Int) := of_decide_eq_true (by first | (with_reducible assumption) | assumption)
                    have q165 : x13_2 < (l1_2.length : Int) := of_decide_eq_true (by first | (with_reducible assumption) | assumption)
                    obtain ⟨ad165, e165, hx165_0⟩ := Kd.at_string HR1_2.out x13_2 p165 q165
                    cases e165
                    replace hx165_0 := (HB.out.cell (World.block_lt_of_cell? w _ hx165_0)).trans hx165_0
                    replace p165 := eq_true p165
                    replace q165 := eq_true q165
                    go_wp2_with (first | ((with_reducible refine gate_callee (f := 67) rfl ?_); refine goesL_ (some 76) rfl rfl Tryd.func67 (by kernel_rfl) rfl #[.string x11_2, .string (rdOf ByteArray.empty l1_2 x13_2)] rfl (by (try simp only [List.map_toArray, List.map_cons, List.map_nil]); first | done | rfl | (simp only [List.length_drop, List.length_take]; rfl)) ?_; (with_reducible refine (planisphereref02_node.calls x11_2 (rdOf ByteArray.empty l1_2 x13_2) t166 _ A35.out).mono ?_); clear A35; rintro e w41 ⟨rfl, hb⟩; refine ⟨_, rfl, ?_⟩; have n0_ := Aside0.mk (Kd.R_below (by (with_reducible repeat (first | apply Kd.R_alloc | apply Kd.R_drewN | apply Kd.R_drew)); exact HO_6.out) hb); have n1_ := Aside0.mk (blk_below (g := gb143) (o := .cells #[.int .i64 a1_0, .slice A1_1 l1_1.length c1_1, .slice (some ad165) l1_2.length c1_2] 35 (0, 0)) (by (with_reducible repeat (first | refine blk_drewN ?_ _ | refine blk_drew ?_ | refine blk_alloc ?_ _)); exact BK143.out) hb); have n2_ := Aside0.mk (below_step (by repeat (first | (with_reducible first | exact HB.out | apply below_alloc | apply pw_below_drewN | apply below_drew1 | refine below_set ?_ GE143.out) | exact HB.out)) hb); clear HO_6; clear BK143; clear HB; have HO_6 := n0_; have BK143 := n1_; have HB := n2_; clear n0_ n1_ n2_; (try clear hb); (try clear hb2); (try clear hk); (try clear hi); have hcz42_0 : w41.cell? ⟨gb143, 0, none⟩ = some (.int .i64 a1_0) := (blk_cell BK143.out 0).trans rfl; have hcz42_1 : w41.cell? ⟨gb143, 1, none⟩ = some (.slice A1_1 l1_1.length c1_1) := (blk_cell BK143.out 1).trans rfl; have hcz42_2 : w41.cell? ⟨gb143, 2, none⟩ = some (.slice (some ad165) l1_2.length c1_2) := (blk_cell BK143.out 2).trans rfl; have hfz42_0 := blk_frozen BK143.out 0; have hfz42_1 := blk_frozen BK143.out 1; have hfz42_2 := blk_frozen BK143.out 2; have p167 : 0 ≤ (x13_2 : Int) := of_decide_eq_true (by first | (with_reducible assumption) | assumption); have q167 : x13_2 < (l1_2.length : Int) := of_decide_eq_true (by first | (with_reducible assumption) | assumption); obtain ⟨ad167, e167, hx167_0⟩ := Kd.at_string HR1_2.out x13_2 p167 q167; obtain rfl : ad165 = ad167 := (by injection e167); replace hx167_0 := (HB.out.cell (World.block_lt_of_cell? w _ hx167_0)).trans hx167_0; replace p167 := eq_true p167; replace q167 := eq_true q167) | ((with_reducible refine gate_callee (f := 67) rfl ?_); refine goesL_ (some 86) rfl rfl Tryd.func67 (by kernel_rfl) rfl #[.string (rdOf ByteArray.empty l1_2 x13_2), .string x11_2] rfl (by (try simp only [List.map_toArray, List.map_cons, List.map_nil]); first | done | rfl | (simp only [List.length_drop, List.length_take]; rfl)) ?_; (with_reducible refine (planisphereref02_node.calls (rdOf ByteArray.empty l1_2 x13_2) x11_2 t168 _ A37.out).mono ?_); clear A37; rintro e w43 ⟨rfl, hb⟩; refine ⟨_, rfl, ?_⟩; have n0_ := Aside0.mk (Kd.R_below (by (with_reducible repeat (first | apply Kd.R_alloc | apply Kd.R_drewN | apply Kd.R_drew)); exact HO_6.out) hb); have n1_ := Aside0.mk (blk_below (g := gb143) (o := .cells #[.int .i64 a1_0, .slice A1_1 l1_1.length c1_1, .slice (some ad165) l1_2.length c1_2] 35 (0, 0)) (by (with_reducible repeat (first | refine blk_drewN ?_ _ | refine blk_drew ?_ | refine blk_alloc ?_ _)); exact BK143.out) hb); have n2_ := Aside0.mk (below_step (by repeat (first | (with_reducible first | exact HB.out | apply below_alloc | apply pw_below_drewN | apply below_drew1 | refine below_set ?_ GE143.out) | exact HB.out)) hb); clear HO_6; clear BK143; clear HB; have HO_6 := n0_; have BK143 := n1_; have HB := n2_; clear n0_ n1_ n2_; (try clear hb); (try clear hb2); (try clear hk); (try clear hi)) | ((with_reducible refine gate_builtin (b := .append) (xs := #[.tmp 87, .tmp 89]) rfl ?_); (try (refine gate_guard (by rfl) ?_; dsimp only)); at_builtin; refine Kd.R_append Kd.string (w0 := w) w.heap.size rfl (.tmp 87) (.tmp 89) 22 9 (.string ⟨#[]⟩) 16 rfl Tryd.underlying22 info9 rfl (by decide) (by omega) u6 x6_2 t168 [.string t168] (fun _ => True) (fun _ => False) rfl rfl ?aP (fun _ hk => hk.elim) ?aF ?aO ?aB ?aS ?aL ?_; (case aP => exact rfl); (case aB => exact (by repeat (first | (with_reducible first | exact HB.out | apply below_alloc | apply pw_below_drewN | apply below_drew1 | refine below_set ?_ GE143.out) | exact HB.out))); (case aF => exact (fun _ _ => trivial)); (case aO => exact (by (with_reducible repeat (first | apply Kd.R_alloc | apply Kd.R_drewN | apply Kd.R_drew)); exact HO_6.out)); (case aS => exact (below_size (by repeat (first | (with_reducible first | exact HB.out | apply below_alloc | apply pw_below_drewN | apply below_drew1 | refine below_set ?_ GE143.out) | exact HB.out)))); (case aL => have := LMc38.out; omega); intro v170 w44 ho hb hg hat; rw [← Ny169.out] at ho; have n0_ := Aside0.mk (blk_grown (g := gb143) (o := .cells #[.int .i64 a1_0, .slice A1_1 l1_1.length c1_1, .slice (some ad165) l1_2.length c1_2] 35 (0, 0)) (by (with_reducible repeat (first | refine blk_drewN ?_ _ | refine blk_drew ?_ | refine blk_alloc ?_ _)); exact BK143.out) hg (Kd.R_ne HO_6.out BK143.out (by decide))); have n1_ := Aside0.mk (hb); have n2_ := Aside0.mk (ho); clear BK143; clear HB; clear HO_6; have BK143 := n0_; have HB := n1_; have HO171 := n2_; clear n0_ n1_ n2_; clear ho hb hg hat) | ((with_reducible refine gate_callee (f := 18) rfl ?_); refine goesL_ (some 92) rfl rfl Tryd.func18 (by kernel_rfl) rfl #[.string t168] rfl (by (try simp only [List.map_toArray, List.map_cons, List.map_nil]); first | done | rfl | (simp only [List.length_drop, List.length_take]; rfl)) ?_; (with_reducible refine (planisphereref01_Sum.callsB t168 t172 _ A39.out).mono ?_); clear A39; rintro e w45 ⟨rfl, hb⟩; refine ⟨_, rfl, ?_⟩; have n0_ := Aside0.mk (Kd.R_below (by (with_reducible repeat (first | apply Kd.R_alloc | apply Kd.R_drewN | apply Kd.R_drew)); exact HO171.out) hb); have n1_ := Aside0.mk (blk_below (g := gb143) (o := .cells #[.int .i64 a1_0, .slice A1_1 l1_1.length c1_1, .slice (some ad165) l1_2.length c1_2] 35 (0, 0)) (by (with_reducible repeat (first | refine blk_drewN ?_ _ | refine blk_drew ?_ | refine blk_alloc ?_ _)); exact BK143.out) hb); have n2_ := Aside0.mk (below_step (by repeat (first | (with_reducible first | exact HB.out | apply below_alloc | apply pw_below_drewN | apply below_drew1 | refine below_set ?_ GE143.out) | exact HB.out)) hb); clear HO171; clear BK143; clear HB; have HO171 := n0_; have BK143 := n1_; have HB := n2_; clear n0_ n1_ n2_; (try clear hb); (try clear hb2); (try clear hk); (try clear hi)))
                    go_roundg k2
                    case measure => have := HJ3.out; have := HK2.out; omega
                    case rel => exact ⟨(y169), (t172), (wrap64 (Int.tdiv x12_2 2)), (wrap64 (x13_2 + 1)), (by first | rfl | (simp; done) | (simp [*]; done)), (by first | rfl | (simp; done) | (simp [*]; done)), (by first | rfl | (simp; done) | (simp [*]; done)), H', ⟨by have := HJ3.out; have := HK2.out; omega⟩, ⟨by (with_reducible repeat (first | apply Kd.R_alloc | apply Kd.R_drewN | apply Kd.R_drew)); exact HO171.out⟩, ⟨by (with_reducible repeat (first | refine blk_drewN ?_ _ | refine blk_drew ?_ | refine blk_alloc ?_ _)); exact BK143.out⟩, ⟨by repeat (first | (with_reducible first | exact HB.out | apply below_alloc | apply pw_below_drewN | apply below_drew1 | refine below_set ?_ GE143.out) | exact HB.out)⟩⟩
                  · rw [if_neg c38] at H
                    exact absurd H (by simp)
                · rw [if_neg c36] at H
                  have c36b0 : ((Int.tmod x12_2 2) == 1) = false := beq_eq_false_iff_ne.mpr c36
                  have c36b1 : ((Int.tmod x12_2 2) != 1) = true := bne_iff_ne.mpr c36
                  by_cases c46 : x6_2.length < 8796093022208
                  · rw [if_pos c46] at H
                    have LMc46 := Aside0.mk c46
                    clear c46
                    obtain ⟨y173, hy173⟩ : ∃ y_ : List ByteArray, y_ = (x6_2 ++ [t166]) := ⟨_, rfl⟩
                    replace H : ((planisphereref01_Sum.f t166).bind fun t176 => (planisphereref02_Checked.l1 k2 y173 t176 (wrap64 (Int.tdiv x12_2 2)) (wrap64 (x13_2 + 1)) a1_0 l1_1 l1_2)) = some r := by first | (rw [hy173]; with_reducible exact H) | (have H2_ := (Option.bind_some _ _).symm.trans H; rw [hy173]; with_reducible exact H2_) | (have H2_ := (Option.bind_some _ _).symm.trans H; with_reducible exact H2_) | with_reducible exact H | (rw [hy173]; exact H) | exact H
                    have Ny173 := Aside0.mk hy173
                    clear hy173
                    replace H := Option.bind_eq_some_iff.mp H
                    obtain ⟨t176, A470, H⟩ := H
                    replace H : (planisphereref02_Checked.l1 k2 y173 t176 (wrap64 (Int.tdiv x12_2 2)) (wrap64 (x13_2 + 1)) a1_0 l1_1 l1_2) = some r := H
                    have A47 := Aside0.mk A470
                    clear A470
                    have H' := Aside0.mk H
                    clear H
                    have hcz48_0 : wr.cell? ⟨gb143, 0, none⟩ = some (.int .i64 a1_0) := (blk_cell BK143.out 0).trans rfl
                    have hcz48_1 : wr.cell? ⟨gb143, 1, none⟩ = some (.slice A1_1 l1_1.length c1_1) := (blk_cell BK143.out 1).trans rfl
                    have hcz48_2 : wr.cell? ⟨gb143, 2, none⟩ = some (.slice A1_2 l1_2.length c1_2) := (blk_cell BK143.out 2).trans rfl
                    have hfz48_0 := blk_frozen BK143.out 0
                    have hfz48_1 := blk_frozen BK143.out 1
                    have hfz48_2 := blk_frozen BK143.out 2
                    have p165 : 0 ≤ (x13_2 : Int) := of_decide_eq_true (by first | (with_reducible assumption) | assumption)
                    have q165 : x13_2 < (l1_2.length : Int) := of_decide_eq_true (by first | (with_reducible assumption) | assumption)
                    obtain ⟨ad165, e165, hx165_0⟩ := Kd.at_string HR1_2.out x13_2 p165 q165
                    cases e165
                    replace hx165_0 := (HB.out.cell (World.block_lt_of_cell? w _ hx165_0)).trans hx165_0
                    replace p165 := eq_true p165
                    replace q165 := eq_true q165
                    go_wp2_with (first | ((with_reducible refine gate_callee (f := 67) rfl ?_); refine goesL_ (some 76) rfl rfl Tryd.func67 (by kernel_rfl) rfl #[.string x11_2, .string (rdOf ByteArray.empty l1_2 x13_2)] rfl (by (try simp only [List.map_toArray, List.map_cons, List.map_nil]); first | done | rfl | (simp only [List.length_drop, List.length_take]; rfl)) ?_; (with_reducible refine (planisphereref02_node.calls x11_2 (rdOf ByteArray.empty l1_2 x13_2) t166 _ A35.out).mono ?_); clear A35; rintro e w49 ⟨rfl, hb⟩; refine ⟨_, rfl, ?_⟩; have n0_ := Aside0.mk (Kd.R_below (by (with_reducible repeat (first | apply Kd.R_alloc | apply Kd.R_drewN | apply Kd.R_drew)); exact HO_6.out) hb); have n1_ := Aside0.mk (blk_below (g := gb143) (o := .cells #[.int .i64 a1_0, .slice A1_1 l1_1.length c1_1, .slice (some ad165) l1_2.length c1_2] 35 (0, 0)) (by (with_reducible repeat (first | refine blk_drewN ?_ _ | refine blk_drew ?_ | refine blk_alloc ?_ _)); exact BK143.out) hb); have n2_ := Aside0.mk (below_step (by repeat (first | (with_reducible first | exact HB.out | apply below_alloc | apply pw_below_drewN | apply below_drew1 | refine below_set ?_ GE143.out) | exact HB.out)) hb); clear HO_6; clear BK143; clear HB; have HO_6 := n0_; have BK143 := n1_; have HB := n2_; clear n0_ n1_ n2_; (try clear hb); (try clear hb2); (try clear hk); (try clear hi)) | ((with_reducible refine gate_builtin (b := .append) (xs := #[.tmp 87, .tmp 89]) rfl ?_); (try (refine gate_guard (by rfl) ?_; dsimp only)); at_builtin; refine Kd.R_append Kd.string (w0 := w) w.heap.size rfl (.tmp 87) (.tmp 89) 22 9 (.string ⟨#[]⟩) 16 rfl Tryd.underlying22 info9 rfl (by decide) (by omega) u6 x6_2 t166 [.string t166] (fun _ => True) (fun _ => False) rfl rfl ?aP (fun _ hk => hk.elim) ?aF ?aO ?aB ?aS ?aL ?_; (case aP => exact rfl); (case aB => exact (by repeat (first | (with_reducible first | exact HB.out | apply below_alloc | apply pw_below_drewN | apply below_drew1 | refine below_set ?_ GE143.out) | exact HB.out))); (case aF => exact (fun _ _ => trivial)); (case aO => exact (by (with_reducible repeat (first | apply Kd.R_alloc | apply Kd.R_drewN | apply Kd.R_drew)); exact HO_6.out)); (case aS => exact (below_size (by repeat (first | (with_reducible first | exact HB.out | apply below_alloc | apply pw_below_drewN | apply below_drew1 | refine below_set ?_ GE143.out) | exact HB.out)))); (case aL => have := LMc46.out; omega); intro v174 w50 ho hb hg hat; rw [← Ny173.out] at ho; have n0_ := Aside0.mk (blk_grown (g := gb143) (o := .cells #[.int .i64 a1_0, .slice A1_1 l1_1.length c1_1, .slice (some ad165) l1_2.length c1_2] 35 (0, 0)) (by (with_reducible repeat (first | refine blk_drewN ?_ _ | refine blk_drew ?_ | refine blk_alloc ?_ _)); exact BK143.out) hg (Kd.R_ne HO_6.out BK143.out (by decide))); have n1_ := Aside0.mk (hb); have n2_ := Aside0.mk (ho); clear BK143; clear HB; clear HO_6; have BK143 := n0_; have HB := n1_; have HO175 := n2_; clear n0_ n1_ n2_; clear ho hb hg hat) | ((with_reducible refine gate_callee (f := 18) rfl ?_); refine goesL_ (some 92) rfl rfl Tryd.func18 (by kernel_rfl) rfl #[.string t166] rfl (by (try simp only [List.map_toArray, List.map_cons, List.map_nil]); first | done | rfl | (simp only [List.length_drop, List.length_take]; rfl)) ?_; (with_reducible refine (planisphereref01_Sum.callsB t166 t176 _ A47.out).mono ?_); clear A47; rintro e w51 ⟨rfl, hb⟩; refine ⟨_, rfl, ?_⟩; have n0_ := Aside0.mk (Kd.R_below (by (with_reducible repeat (first | apply Kd.R_alloc | apply Kd.R_drewN | apply Kd.R_drew)); exact HO175.out) hb); have n1_ := Aside0.mk (blk_below (g := gb143) (o := .cells #[.int .i64 a1_0, .slice A1_1 l1_1.length c1_1, .slice (some ad165) l1_2.length c1_2] 35 (0, 0)) (by (with_reducible repeat (first | refine blk_drewN ?_ _ | refine blk_drew ?_ | refine blk_alloc ?_ _)); exact BK143.out) hb); have n2_ := Aside0.mk (below_step (by repeat (first | (with_reducible first | exact HB.out | apply below_alloc | apply pw_below_drewN | apply below_drew1 | refine below_set ?_ GE143.out) | exact HB.out)) hb); clear HO175; clear BK143; clear HB; have HO175 := n0_; have BK143 := n1_; have HB := n2_; clear n0_ n1_ n2_; (try clear hb); (try clear hb2); (try clear hk); (try clear hi)))
                    go_roundg k2
                    case measure => have := HJ3.out; have := HK2.out; omega
                    case rel => exact ⟨(y173), (t176), (wrap64 (Int.tdiv x12_2 2)), (wrap64 (x13_2 + 1)), (by first | rfl | (simp; done) | (simp [*]; done)), (by first | rfl | (simp; done) | (simp [*]; done)), (by first | rfl | (simp; done) | (simp [*]; done)), H', ⟨by have := HJ3.out; have := HK2.out; omega⟩, ⟨by (with_reducible repeat (first | apply Kd.R_alloc | apply Kd.R_drewN | apply Kd.R_drew)); exact HO175.out⟩, ⟨by (with_reducible repeat (first | refine blk_drewN ?_ _ | refine blk_drew ?_ | refine blk_alloc ?_ _)); exact BK143.out⟩, ⟨by repeat (first | (with_reducible first | exact HB.out | apply below_alloc | apply pw_below_drewN | apply below_drew1 | refine below_set ?_ GE143.out) | exact HB.out)⟩⟩
                  · rw [if_neg c46] at H
                    exact absurd H (by simp)
              · rw [if_neg c34] at H
                exact absurd H (by simp)
            · rw [if_neg c33] at H
              have c33b0 : decide (x13_2 < (l1_2.length : Int)) = false := decide_eq_false c33
              clear c33
              obtain rfl := Option.some.inj H
              have hcz52_0 : wr.cell? ⟨gb143, 0, none⟩ = some (.int .i64 a1_0) := (blk_cell BK143.out 0).trans rfl
              have hcz52_1 : wr.cell? ⟨gb143, 1, none⟩ = some (.slice A1_1 l1_1.length c1_1) := (blk_cell BK143.out 1).trans rfl
              have hcz52_2 : wr.cell? ⟨gb143, 2, none⟩ = some (.slice A1_2 l1_2.length c1_2) := (blk_cell BK143.out 2).trans rfl
              have hfz52_0 := blk_frozen BK143.out 0
              have hfz52_1 := blk_frozen BK143.out 1
              have hfz52_2 := blk_frozen BK143.out 2
              go_wp2
              go_ret
              exact ⟨_, by first | rfl | (simp [errW_none, errW_some] <;> rfl) | (simp [*, errW_none, errW_some] <;> rfl), by (with_reducible repeat (first | apply Kd.R_alloc | apply Kd.R_drewN | apply Kd.R_drew)); exact HO_6.out, by repeat (first | (with_reducible first | exact HB.out | apply below_alloc | apply pw_below_drewN | apply below_drew1 | refine below_set ?_ GE143.out) | exact HB.out)⟩
      · rw [if_neg c26] at H
        exact absurd H (by simp)
end Go.Proofs.YteleheamnighkaaDoor.PCf
end
section
set_option linter.unusedVariables false
set_option linter.unusedSimpArgs false
namespace Go.Proofs.YteleheamnighkaaDoor
open Go.RowKit Go.DoorKit Go.Proofs.YteleheamnighkaaDoorW.PrintWords
def partTo (s : Dig.Txt) (i n : Nat) : Nat → List ByteArray
  | 0 => []
  | k + 1 => partTo s i n k ++ (ofT (Dig.startT s i k) :: chainedB (Dig.start0 s i k) (n + 1))
def keyPart (s : Dig.Txt) (n i : Nat) : List ByteArray := partTo s i n 18 ++ [ofT (Dig.keyT s i)]
def keysTo (s : Dig.Txt) (n : Nat) : Nat → List ByteArray
  | 0 => []
  | i + 1 => keysTo s n i ++ keyPart s n i
def nodesTo (s : Dig.Txt) (j : Nat) : Nat → List ByteArray
  | 0 => []
  | m + 1 => nodesTo s j m ++ [ofT (Dig.nodeT (Dig.tree s j (2 * m)) (Dig.tree s j (2 * m + 1)))]
def levelsTo (s : Dig.Txt) (h : Nat) : Nat → List ByteArray
  | 0 => []
  | j + 1 => levelsTo s h j ++ nodesTo s j (2 ^ (h - 1 - j))
def madeL (s : Dig.Txt) (h n : Nat) : List ByteArray := keysTo s n (2 ^ h) ++ levelsTo s h h
theorem partTo_len (s : Dig.Txt) (i n : Nat) : ∀ k, (partTo s i n k).length = k * (n + 2)
  | 0 => by simp [partTo]
  | k + 1 => by rw [partTo, List.length_append, partTo_len s i n k, List.length_cons, chainedB_len, Nat.succ_mul]
theorem keysTo_len (s : Dig.Txt) (n : Nat) : ∀ i, (keysTo s n i).length = i * (18 * (n + 2) + 1)
  | 0 => by simp [keysTo]
  | i + 1 => by rw [keysTo, List.length_append, keysTo_len s n i, keyPart, List.length_append, partTo_len, List.length_singleton]; exact (Nat.succ_mul i _).symm
theorem nodesTo_len (s : Dig.Txt) (j : Nat) : ∀ m, (nodesTo s j m).length = m
  | 0 => rfl
  | m + 1 => by rw [nodesTo, List.length_append, nodesTo_len s j m]; rfl
theorem levelsTo_len (s : Dig.Txt) (h : Nat) (hh : h ≤ 3) : ∀ j, j ≤ h → (levelsTo s h j).length ≤ j * 8
  | 0, _ => by simp [levelsTo]
  | j + 1, hj => by
    have := levelsTo_len s h hh j (by omega)
    have hp : 2 ^ (h - 1 - j) ≤ 8 := Nat.le_trans (pow_le (show h - 1 - j ≤ 3 by omega)) (by decide)
    rw [levelsTo, List.length_append, nodesTo_len]; omega
theorem startT_need (a0 : ByteArray) {i k : Nat} (h : a0.size ≤ 10000) (hi : i ≤ 100000) (hk : k ≤ 100000) : (ofT (Dig.startT (tx a0) i k)).size ≤ 140737488355328 := by
  rw [size_ofT]
  exact Nat.le_trans (joined_need [a0, ofT (Lib.decDigits i), ofT (Lib.decDigits k)] (start_need a0 h hi hk)) (start_need a0 h hi hk)
theorem keyT_size (s : Dig.Txt) (i : Nat) : (ofT (Dig.keyT s i)).size ≤ 140737488355328 := by
  rw [size_ofT]
  unfold Dig.keyT
  rw [← endsB_tx]
  exact Nat.le_trans (joined_need _ (ends_need s i)) (ends_need s i)
theorem nodeT_size (a b : ByteArray) (ha : a.size ≤ 10000) (hb : b.size ≤ 10000) : (ofT (Dig.nodeT (tx a) (tx b))).size ≤ 140737488355328 := by
  rw [size_ofT]
  exact Nat.le_trans (joined_need [(⟨#[110, 111, 100, 101]⟩ : ByteArray), a, b] (node_need a b ha hb)) (node_need a b ha hb)
theorem chainedB_get (t : Dig.Txt) (n j : Nat) (h : j < n) : (chainedB t n).getD j ByteArray.empty = ofT (Dig.chain t j) := by
  rw [List.getD_eq_getElem?_getD, List.getElem?_eq_getElem (by rw [chainedB_len]; exact h)]
  simp [chainedB]
theorem rChained (t : ByteArray) (n : Nat) (h : t.size ≤ 140737488355328) (hn : n ≤ 1000) : planisphereref02_chained.f t n = some (chainedB (tx t) (n + 1)) := by
  unfold planisphereref02_chained.f; rw [if_pos (Links.mk h (by omega) (by omega)), Int.toNat_natCast]
theorem rNode (a b : ByteArray) (ha : a.size ≤ 10000) (hb : b.size ≤ 10000) : planisphereref02_node.f a b = some (ofT (Dig.nodeT (tx a) (tx b))) := if_pos ⟨ha, hb⟩
theorem emade3 (s : Dig.Txt) (j M : Nat) (hM : M ≤ 8) (out : List ByteArray) (ho : out.length ≤ 100000) {R : List ByteArray}
    (hn : Ev (fun k => PCf.planisphereref02_Made.l2 k (out ++ nodesTo s j M) (lvl s M (j + 1))) R) : ∀ (d m : Nat), m + d = M →
    Ev (fun k => PCf.planisphereref02_Made.l3 k (out ++ nodesTo s j m) (lvl s (2 * M) j) (lvl s m (j + 1)) ((2 * m : Nat) : Int)) R
  | 0, m, hm => by
    obtain rfl : m = M := by omega
    refine Ev.step (fun k => ?_) hn
    have hl : ((lvl s (2 * m) j).length : Int) = ((2 * m : Nat) : Int) := by rw [lvl_len]
    rw [PCf.planisphereref02_Made.l3, wrap_succ (2 * m) (by omega), if_neg (by omega)]
  | d + 1, m, hm => by
    refine Ev.step (fun k => ?_) (emade3 s j M hM out ho hn d (m + 1) (by omega))
    have hl : ((lvl s (2 * M) j).length : Int) = ((2 * M : Nat) : Int) := by rw [lvl_len]
    have hsz : ∀ i, (ofT (Dig.tree s j i)).size ≤ 10000 := fun i => by rw [size_ofT, tree_len]; decide
    have hnl := nodesTo_len s j m
    have hll := lvl_len s m (j + 1)
    rw [PCf.planisphereref02_Made.l3, wrap_succ (2 * m) (by omega), if_pos (by omega), if_pos (by omega), if_pos (by omega), if_pos (by omega)]
    unfold rdOf
    rw [Int.toNat_natCast, Int.toNat_natCast, lvl_get _ _ _ _ (by omega), lvl_get _ _ _ _ (by omega), rNode _ _ (hsz _) (hsz _), Option.bind_some, if_pos (by rw [List.length_append]; omega), Option.bind_some,
      rSum _ (nodeT_size _ _ (hsz _) (hsz _)), Option.bind_some, if_pos (by omega), wrap_two (2 * m) (by omega), lvl_succ, nodesTo, List.append_assoc, tx_ofT, tx_ofT, tx_ofT]
    rfl
theorem emade2 (s : Dig.Txt) (h : Nat) (hh : h ≤ 3) (out : List ByteArray) (ho : out.length ≤ 50000) : ∀ (d j : Nat), j + d = h →
    Ev (fun k => PCf.planisphereref02_Made.l2 k (out ++ levelsTo s h j) (lvl s (2 ^ d) j)) (out ++ levelsTo s h h)
  | 0, j, hj => by
    obtain rfl : j = h := by omega
    have hl : ((lvl s (2 ^ 0) j).length : Int) = 1 := by rw [lvl_len]; rfl
    refine Ev.step (fun k => ?_) (Ev.now _)
    rw [PCf.planisphereref02_Made.l2, if_neg (by omega)]
  | d + 1, j, hj => by
    have ih := emade2 s h hh out ho d (j + 1) (by omega)
    have hp0 := Nat.two_pow_pos d
    have hp8 : 2 ^ d ≤ 8 := Nat.le_trans (pow_le (show d ≤ 3 by omega)) (by decide)
    have hl := lvl_len s (2 ^ (d + 1)) j
    have hp := pow_two_succ d
    have hlv := levelsTo_len s h hh j (by omega)
    have e : h - 1 - j = d := by omega
    rw [levelsTo, e, ← List.append_assoc] at ih
    have h3 := emade3 s j (2 ^ d) hp8 (out ++ levelsTo s h j) (by rw [List.length_append]; omega) ih (2 ^ d) 0 (by omega)
    rw [nodesTo, List.append_nil] at h3
    refine Ev.step (fun k => ?_) h3
    rw [PCf.planisphereref02_Made.l2, if_pos (by omega), hp]
    rfl
theorem emade1 (a0 : ByteArray) (hs : a0.size ≤ 10000) (h n i : Nat) (hn : 15 ≤ n) (hn2 : n ≤ 100) (hi : i ≤ 100) (out lev : List ByteArray) (ho : out.length ≤ 100000) (hlev : lev.length ≤ 1000) {R : List ByteArray}
    (hnext : Ev (fun k => PCf.planisphereref02_Made.l0 k a0 h n (out ++ keyPart (tx a0) n i) (lev ++ [ofT (Dig.tree (tx a0) 0 i)]) ((i + 1 : Nat) : Int)) R) : ∀ (d j : Nat), j + d = 18 →
    Ev (fun k => PCf.planisphereref02_Made.l1 k a0 h n (out ++ partTo (tx a0) i n j) lev i (endsB (tx a0) i j) j) R
  | 0, j, hj => by
    obtain rfl : j = 18 := by omega
    refine Ev.step (fun k => ?_) hnext
    have hp := partTo_len (tx a0) i n 18
    have hk : planisphereref01_Joined.f (endsB (tx a0) i 18) = some (ofT (Dig.keyT (tx a0) i)) := by
      rw [rJoined _ (ends_need _ _), endsB_tx]; rfl
    rw [PCf.planisphereref02_Made.l1, if_neg (by omega), hk, Option.bind_some, if_pos (by rw [List.length_append, hp]; omega), rSum _ (keyT_size _ _), Option.bind_some, if_pos (by omega), wrap_succ i (by omega), List.append_assoc, tx_ofT]
    rfl
  | d + 1, j, hj => by
    have hp := partTo_len (tx a0) i n j
    have hjn : j * (n + 2) ≤ 18 * (100 + 2) := Nat.mul_le_mul (by omega) (by omega)
    refine Ev.step (fun k => ?_) (emade1 a0 hs h n i hn hn2 hi out lev ho hlev hnext d (j + 1) (by omega))
    have hJ : planisphereref01_Joined.f [a0, ofT (Lib.decDigits i), ofT (Lib.decDigits j)] = some (ofT (Dig.startT (tx a0) i j)) := rJoined _ (start_need a0 hs (by omega) (by omega))
    have hcl := chainedB_len (Dig.start0 (tx a0) i j) (n + 1)
    have hC : planisphereref02_chained.f (ofT (Dig.sum (tx (ofT (Dig.startT (tx a0) i j))))) n = some (chainedB (Dig.start0 (tx a0) i j) (n + 1)) := by
      rw [rChained _ _ (sum_big _) (by omega), tx_ofT, tx_ofT]; rfl
    have hg : rdOf ByteArray.empty (chainedB (Dig.start0 (tx a0) i j) (n + 1)) 15 = ofT (Dig.chain (Dig.start0 (tx a0) i j) 15) := by
      unfold rdOf
      exact chainedB_get _ _ 15 (by omega)
    rw [PCf.planisphereref02_Made.l1, if_pos (by omega), rDec (by omega), Option.bind_some, rDec (by omega), Option.bind_some, hJ, Option.bind_some, if_pos (by rw [List.length_append, hp]; omega), Option.bind_some,
      rSum _ (startT_need a0 hs (by omega) (by omega)), Option.bind_some, hC, Option.bind_some, if_pos (by rw [List.length_append, List.length_append, hp, hcl, List.length_singleton]; omega), if_pos (by rw [hcl]; omega), if_pos (by rw [endsB_len]; omega), hg, wrap_succ j (by omega), endsB_succ, partTo,
      List.append_assoc, List.append_assoc]
    rfl
theorem emade0 (a0 : ByteArray) (hs : a0.size ≤ 10000) (h n : Nat) (hh : h ≤ 3) (hn : 15 ≤ n) (hn2 : n ≤ 100) : ∀ (d i : Nat), i + d = 2 ^ h →
    Ev (fun k => PCf.planisphereref02_Made.l0 k a0 h n (keysTo (tx a0) n i) (lvl (tx a0) i 0) i) (madeL (tx a0) h n) := by
  have hp8 : 2 ^ h ≤ 8 := Nat.le_trans (pow_le hh) (by decide)
  have hpw := rPower h (by omega)
  have hfin : Ev (fun k => PCf.planisphereref02_Made.l2 k (keysTo (tx a0) n (2 ^ h)) (lvl (tx a0) (2 ^ h) 0)) (madeL (tx a0) h n) := by
    have hkl := keysTo_len (tx a0) n (2 ^ h)
    have hb : 2 ^ h * (18 * (n + 2) + 1) ≤ 8 * (18 * 102 + 1) := Nat.mul_le_mul hp8 (by omega)
    have := emade2 (tx a0) h hh (keysTo (tx a0) n (2 ^ h)) (by omega) h 0 (by omega)
    rw [levelsTo, List.append_nil] at this
    exact this
  unfold madeL at hfin ⊢
  generalize 2 ^ h = P at *
  intro d
  induction d with
  | zero =>
    intro i hi
    obtain rfl : i = P := by omega
    refine Ev.step (fun k => ?_) hfin
    rw [PCf.planisphereref02_Made.l0, hpw, Option.bind_some, if_neg (by omega)]
  | succ d ih =>
    intro i hi
    have hkl := keysTo_len (tx a0) n i
    have hb : i * (18 * (n + 2) + 1) ≤ 8 * (18 * 102 + 1) := Nat.mul_le_mul (by omega) (by omega)
    have h2 := ih (i + 1) (by omega)
    rw [keysTo, lvl_succ] at h2
    have h1 := emade1 a0 hs h n i hn hn2 (by omega) (keysTo (tx a0) n i) (lvl (tx a0) i 0) (by omega) (by rw [lvl_len]; omega) h2 18 0 rfl
    rw [partTo, List.append_nil] at h1
    refine Ev.step (fun k => ?_) h1
    rw [PCf.planisphereref02_Made.l0, hpw, Option.bind_some, if_pos (by omega)]
    rfl
def madeIn (a0 : ByteArray) (a1 a2 : Int) : Prop := Small a0.size ∧ 0 ≤ a1 ∧ a1 ≤ 3 ∧ 15 ≤ a2 ∧ a2 ≤ 100
instance (a0 : ByteArray) (a1 a2 : Int) : Decidable (madeIn a0 a1 a2) := inferInstanceAs (Decidable (Small a0.size ∧ 0 ≤ a1 ∧ a1 ≤ 3 ∧ 15 ≤ a2 ∧ a2 ≤ 100))
def planisphereref02_Made.f (a0 : ByteArray) (a1 a2 : Int) : Option (List ByteArray) := if madeIn a0 a1 a2 then some (madeL (tx a0) a1.toNat a2.toNat) else none
theorem planisphereref02_Made.calls (a0 : ByteArray) (a1 : Int) (a2 : Int) (r : List ByteArray) (w : World) (h : planisphereref02_Made.f a0 a1 a2 = some r) :
    Calls Tryd.prog 36 #[.string a0, .int .i64 a1, .int .i64 a2] w fun e w' => ∃ v0_ : Value, e = .returned (v0_) ∧ Kd.R Kd.string 9 w' w.heap.size (fun _ => True) v0_ r ∧ Below w.heap.size w w' := by
  obtain ⟨⟨hs, h1, h2, h3, h4⟩, rfl⟩ := if_out h
  obtain ⟨m, rfl⟩ := Int.eq_ofNat_of_zero_le h1
  obtain ⟨n, rfl⟩ := Int.eq_ofNat_of_zero_le (show 0 ≤ a2 by omega)
  obtain ⟨k, hk⟩ := (emade0 a0 hs m n (by omega) (by omega) (by omega) (2 ^ m) 0 (by omega)).rounds
  exact PCf.planisphereref02_Made.calls k a0 m n _ w hk
def chkTo (l : List ByteArray) (m : Dig.Txt) : Nat → List ByteArray
  | 0 => []
  | j + 1 => chkTo l m j ++ chainedB (tx (l.getD j ByteArray.empty)) (15 - dAt m j + 1)
theorem chkTo_len (l : List ByteArray) (m : Dig.Txt) : ∀ j, (chkTo l m j).length ≤ j * 16
  | 0 => Nat.le_refl _
  | j + 1 => by have := chkTo_len l m j; rw [chkTo, List.length_append, chainedB_len, Nat.succ_mul]; omega
def checkedL (m : Dig.Txt) (i : Nat) (l1 l2 : List ByteArray) : List ByteArray :=
  chkTo l1 m 18 ++ [ofT (Dig.joined ((endsL l1 m).map tx))] ++ (Dig.climbT (Dig.lst ((endsL l1 m).map tx)) i (l2.map tx)).map ofT
theorem stepT_eq (X p : Dig.Txt) (x : Nat) : Dig.stepT X p x = if x % 2 = 1 then Dig.nodeT p X else Dig.nodeT X p := rfl
theorem echk1 (i0 : Int) (l1 l2 : List ByteArray) (hz : ∀ s ∈ l2, s.size ≤ 10000) (hl : l2.length ≤ 100) : ∀ (d j : Nat) (X : Dig.Txt) (x : Nat) (out : List ByteArray), j + d = l2.length → X.length = 16 → x ≤ 4000 → out.length ≤ 10000 + j →
    Ev (fun k => PCf.planisphereref02_Checked.l1 k out (ofT X) x j i0 l1 l2) (out ++ (Dig.climbT X x ((l2.drop j).map tx)).map ofT)
  | 0, j, X, x, out, hj, hX, hx, ho => by
    obtain rfl : j = l2.length := by omega
    rw [List.drop_length, List.map_nil, Dig.climbT, List.map_nil, List.append_nil]
    refine Ev.step (fun k => ?_) (Ev.now _)
    rw [PCf.planisphereref02_Checked.l1, if_neg (by omega)]
  | d + 1, j, X, x, out, hj, hX, hx, ho => by
    have hlt : j < l2.length := by omega
    have hs := hz _ (getD_mem hlt)
    have hXs : (ofT X).size ≤ 10000 := by rw [size_ofT, hX]; decide
    have ih := echk1 i0 l1 l2 hz hl d (j + 1) (Dig.sum (Dig.stepT X (tx (l2.getD j ByteArray.empty)) x)) (x / 2) (out ++ [ofT (Dig.stepT X (tx (l2.getD j ByteArray.empty)) x)]) (by omega) (Dig.sum_len _) (by omega) (by simp; omega)
    rw [List.append_assoc] at ih
    rw [drop_one hlt, List.map_cons, Dig.climbT, List.map_cons]
    refine Ev.step (fun k => ?_) ih
    rw [PCf.planisphereref02_Checked.l1, if_pos (by omega), if_pos (by omega)]
    unfold rdOf
    rw [Int.toNat_natCast, rNode _ _ hXs hs, Option.bind_some, tmod2, tdiv2 x hx, wrap_succ j (by omega)]
    by_cases h1 : x % 2 = 1
    · rw [if_pos (by omega), rNode _ _ hs hXs, Option.bind_some, if_pos (by omega), rSum _ (nodeT_size _ _ hs hXs), Option.bind_some, stepT_eq, if_pos h1, tx_ofT, tx_ofT]
    · rw [if_neg (by omega), if_pos (by omega), rSum _ (nodeT_size _ _ hXs hs), Option.bind_some, stepT_eq, if_neg h1, tx_ofT, tx_ofT]
theorem echk0 (a0 : ByteArray) (i0 : Nat) (hi0 : i0 ≤ 4000) (l1 l2 : List ByteArray) (h1 : l1.length = 18) (hz1 : ∀ s ∈ l1, s.size ≤ 100) (hz : ∀ s ∈ l2, s.size ≤ 10000) (hl : l2.length ≤ 100) : ∀ (d j : Nat), j + d = 18 →
    Ev (fun k => PCf.planisphereref02_Checked.l0 k (ints (Dig.digits (tx a0))) (chkTo l1 (tx a0) j) (endsTo l1 (tx a0) j) j i0 l1 l2) (checkedL (tx a0) i0 l1 l2)
  | 0, j, hj => by
    obtain rfl : j = 18 := by omega
    have hE : need (endsL l1 (tx a0)) ≤ 140737488355328 := by
      refine need_all 100 18 ?_ (by rw [endsL_len]; exact Nat.le_refl _) (by decide)
      intro s hs
      simp only [endsL, List.mem_map] at hs
      obtain ⟨j, _, rfl⟩ := hs
      unfold endAt
      rw [size_ofT]
      exact chain_len' (by rw [tx_len]; exact hz1 _ (getD_mem (by have := j.isLt; omega)))
    have hcl := chkTo_len l1 (tx a0) 18
    have h2 := echk1 i0 l1 l2 hz hl l2.length 0 (Dig.lst ((endsL l1 (tx a0)).map tx)) i0 (chkTo l1 (tx a0) 18 ++ [ofT (Dig.joined ((endsL l1 (tx a0)).map tx))]) (by omega) (Dig.sum_len _) hi0 (by simp; omega)
    rw [List.drop_zero] at h2
    refine Ev.step (f := fun k => PCf.planisphereref02_Checked.j1 k (chkTo l1 (tx a0) 18) (endsTo l1 (tx a0) 18) i0 l1 l2) (fun k => ?_) (Ev.step (fun k => ?_) h2)
    · rw [PCf.planisphereref02_Checked.l0, if_neg (by omega)]
    · rw [PCf.planisphereref02_Checked.j1, endsTo_all, rJoined _ hE, Option.bind_some, if_pos (by omega), rSum _ ?_, Option.bind_some, tx_ofT]
      · rfl
      · rw [size_ofT]; exact Nat.le_trans (joined_need _ hE) hE
  | d + 1, j, hj => by
    have hlt : j < l1.length := by omega
    have hs := hz1 _ (getD_mem hlt)
    have hdl : ((ints (Dig.digits (tx a0))).length : Int) = 18 := by rw [ints_len, digits_len]; rfl
    have hcl := chkTo_len l1 (tx a0) j
    have hch := chainedB_len (tx (l1.getD j ByteArray.empty)) (15 - dAt (tx a0) j + 1)
    have ih := echk0 a0 i0 hi0 l1 l2 h1 hz1 hz hl d (j + 1) (by omega)
    rw [endsTo_succ, chkTo] at ih
    refine Ev.step (fun k => ?_) ih
    have hr : ∀ L : List ByteArray, rdOf ByteArray.empty L (j : Int) = L.getD j ByteArray.empty := fun L => by unfold rdOf; rw [Int.toNat_natCast]
    have hg : rdOf ByteArray.empty (chainedB (tx (l1.getD j ByteArray.empty)) (15 - dAt (tx a0) j + 1)) ((15 - dAt (tx a0) j : Nat) : Int) = endAt l1 (tx a0) j := by
      unfold rdOf
      rw [Int.toNat_natCast, chainedB_get _ _ _ (by omega)]; rfl
    rw [PCf.planisphereref02_Checked.l0, if_pos (by omega), if_pos (by omega), if_pos (by omega), if_pos (by omega), rd_digits _ _ (by omega), wrap_sub15 _ (dAt_le _ _), hr, rChained _ _ (by omega) (by omega), Option.bind_some,
      if_pos (by rw [hch]; omega), if_pos (by omega), if_pos (by rw [hch]; omega), if_pos (by rw [endsTo_len]; omega), hg, wrap_succ j (by omega)]
def chkIn (a0 : ByteArray) (i : Int) (l1 l2 : List ByteArray) : Prop := Big a0.size ∧ 0 ≤ i ∧ i ≤ 4000 ∧ l1.length = 18 ∧ (∀ s ∈ l1, s.size ≤ 100) ∧ (∀ s ∈ l2, s.size ≤ 10000) ∧ l2.length ≤ 100
instance (a0 : ByteArray) (i : Int) (l1 l2 : List ByteArray) : Decidable (chkIn a0 i l1 l2) := inferInstanceAs (Decidable (Big a0.size ∧ 0 ≤ i ∧ i ≤ 4000 ∧ l1.length = 18 ∧ (∀ s ∈ l1, s.size ≤ 100) ∧ (∀ s ∈ l2, s.size ≤ 10000) ∧ l2.length ≤ 100))
def planisphereref02_Checked.f (a0 : ByteArray) (a1_0 : Int) (l1_1 l1_2 : List ByteArray) : Option (List ByteArray) := if chkIn a0 a1_0 l1_1 l1_2 then some (checkedL (tx a0) a1_0.toNat l1_1 l1_2) else none
theorem planisphereref02_Checked.calls (a0 : ByteArray) (a1_0 : Int) (A1_1 : Option Addr) (c1_1 : Nat) (l1_1 : List ByteArray) (A1_2 : Option Addr) (c1_2 : Nat) (l1_2 : List ByteArray) (r : List ByteArray) (w : World) (hr1_1 : Kd.C Kd.string w A1_1 l1_1.length l1_1) (hc1_1 : l1_1.length ≤ c1_1) (hr1_2 : Kd.C Kd.string w A1_2 l1_2.length l1_2) (hc1_2 : l1_2.length ≤ c1_2) (h : planisphereref02_Checked.f a0 a1_0 l1_1 l1_2 = some r) :
    Calls Tryd.prog 37 #[.string a0, .agg #[.int .i64 a1_0, .slice A1_1 l1_1.length c1_1, .slice A1_2 l1_2.length c1_2]] w fun e w' => ∃ v0_ : Value, e = .returned (v0_) ∧ Kd.R Kd.string 9 w' w.heap.size (fun _ => True) v0_ r ∧ Below w.heap.size w w' := by
  obtain ⟨⟨hm, h0, hi, h1, hz1, hz2, hl2⟩, rfl⟩ := if_out h
  obtain ⟨i, rfl⟩ := Int.eq_ofNat_of_zero_le h0
  obtain ⟨k, hk⟩ := (echk0 a0 i (by omega) l1_1 l1_2 h1 hz1 hz2 hl2 18 0 rfl).rounds
  refine PCf.planisphereref02_Checked.calls k a0 i A1_1 c1_1 l1_1 A1_2 c1_2 l1_2 _ w hr1_1 hc1_1 hr1_2 hc1_2 ?_
  unfold PCf.planisphereref02_Checked.f
  have hd : planisphereref02_Digits.f a0 = some (ints (Dig.digits (tx a0))) := if_pos hm
  rw [hd, Option.bind_some, Int.toNat_natCast]
  exact hk
end Go.Proofs.YteleheamnighkaaDoor
end
section
set_option linter.unusedVariables false
set_option linter.unusedSimpArgs false
namespace Go.Proofs.YteleheamnighkaaDoor
open Go.RowKit Go.DoorKit Go.Proofs.YteleheamnighkaaDoorW.PrintWords
theorem isD_sum (t : Dig.Txt) : Dig.isD (Dig.sum t) = true := by
  unfold Dig.isD
  rw [Dig.sum_len, List.all_eq_true.2 (Pure.sum_hex t)]; rfl
theorem isD_chain {t : Dig.Txt} (h : Dig.isD t = true) : ∀ n, Dig.isD (Dig.chain t n) = true
  | 0 => h
  | n + 1 => isD_sum _
theorem isD_tree (s : Dig.Txt) : ∀ j m, Dig.isD (Dig.tree s j m) = true
  | 0, _ => isD_sum _
  | _ + 1, _ => isD_sum _
theorem sig_odd (s : Dig.Txt) (i : Nat) (m : Dig.Txt) : oddB (sigL s i m) = false := by
  unfold oddB
  rw [List.any_eq_false]
  intro t ht
  simp only [sigL, List.mem_map] at ht
  obtain ⟨j, _, rfl⟩ := ht
  unfold sigAt
  rw [tx_ofT, isD_chain (t := Dig.start0 s i j) (isD_sum _)]; decide
theorem path_odd (s : Dig.Txt) (i h : Nat) : oddB (pathL s i h) = false := by
  unfold oddB
  rw [List.any_eq_false]
  intro t ht
  simp only [pathL, List.mem_map] at ht
  obtain ⟨j, _, rfl⟩ := ht
  rw [tx_ofT, isD_tree]; decide
theorem sig_get (s : Dig.Txt) (i : Nat) (m : Dig.Txt) (j : Nat) (h : j < 18) : (sigL s i m).getD j ByteArray.empty = sigAt s i m j := by
  rw [← sigTo_all]
  unfold sigTo
  rw [List.getD_eq_getElem?_getD, List.getElem?_map, List.getElem?_range h]; rfl
theorem ends_sig (s : Dig.Txt) (i : Nat) (m : Dig.Txt) : endsL (sigL s i m) m = endsB s i 18 := by
  rw [← endsTo_all]
  unfold endsTo endsB
  apply List.map_congr_left
  intro j hj
  have hj := List.mem_range.1 hj
  unfold endAt
  rw [sig_get s i m j hj]
  unfold sigAt
  rw [tx_ofT, Dig.chain_add]
  have := dAt_le m j
  rw [show dAt m j + (15 - dAt m j) = 15 by omega]
theorem step_tree (s : Dig.Txt) (n q : Nat) : Dig.sum (Dig.stepT (Dig.tree s n q) (Dig.tree s n (Dig.sib q)) q) = Dig.tree s (n + 1) (q / 2) := by
  unfold Dig.stepT Dig.sib
  by_cases h : q % 2 = 1
  · rw [if_pos h, if_neg (by omega), Dig.tree, show 2 * (q / 2) + 1 = q by omega, show 2 * (q / 2) = q - 1 by omega]
  · rw [if_neg h, if_pos (by omega), Dig.tree, show 2 * (q / 2) = q by omega]
theorem climb_path (s : Dig.Txt) (i : Nat) : ∀ n, Dig.climb (Dig.tree s 0 i) i ((pathL s i n).map tx) = Dig.tree s n (i / 2 ^ n)
  | 0 => by
    have : pathL s i 0 = [] := rfl
    rw [this, List.map_nil, Dig.climb, Nat.pow_zero, Nat.div_one]
  | n + 1 => by
    rw [pathL_succ, List.map_append, List.map_cons, List.map_nil, Dig.climb_snoc, climb_path s i n, List.length_map, pathL_len, tx_ofT, step_tree, Nat.pow_succ, ← Nat.div_div_eq_div_mul]
theorem climb_sig (s : Dig.Txt) (h i : Nat) (msg : ByteArray) (hi : i < 2 ^ h) : Dig.climb (Dig.lst ((endsL (sigL s i (tx msg)) (tx msg)).map tx)) i ((pathL s i h).map tx) = Dig.tree s h 0 := by
  rw [ends_sig, endsB_tx]
  have := climb_path s i h
  rw [Nat.div_eq_of_lt hi] at this
  exact this
theorem ver_sig (s : Dig.Txt) (h i : Nat) (msg : ByteArray) (hh : h ≤ 8) (hi : i < 2 ^ h) (r : ByteArray) : verR r msg i (sigL s i (tx msg)) (pathL s i h) = decide (r = ofT (Dig.tree s h 0)) := by
  unfold verR
  have hp : (pathL s i h).length = h := pathL_len s i h
  rw [if_pos ⟨sigL_len _ _ _, by omega, sig_odd _ _ _, path_odd _ _ _, by omega, by rw [hp]; exact_mod_cast hi⟩, Int.toNat_natCast]
  unfold climbB
  rw [climb_sig s h i msg hi]
  by_cases hr : r = ofT (Dig.tree s h 0)
  · rw [hr, decide_eq_true rfl]; exact beq_self_eq_true _
  · rw [decide_eq_false hr]
    exact beq_eq_false_iff_ne.mpr (fun e => hr (toList_eq.1 e).symm)
theorem sigL_big (s : Dig.Txt) (i : Nat) (m : Dig.Txt) : ∀ x ∈ sigL s i m, x.size = 16 := oddB_size (sig_odd s i m)
theorem pathL_big (s : Dig.Txt) (i h : Nat) : ∀ x ∈ pathL s i h, x.size = 16 := oddB_size (path_odd s i h)
theorem verIn_small {msg : ByteArray} {l1 l2 : List ByteArray} (hm : msg.size ≤ 300) (h1 : ∀ x ∈ l1, x.size ≤ 1000) (h2 : ∀ x ∈ l2, x.size ≤ 1000) (n1 : l1.length ≤ 100) (n2 : l2.length ≤ 100) : verIn msg l1 l2 :=
  ⟨Nat.le_trans hm (by decide), fun s hs => Nat.le_trans (h1 s hs) (by decide), fun s hs => Nat.le_trans (h2 s hs) (by decide), by omega, by omega⟩
end Go.Proofs.YteleheamnighkaaDoor
end
section
set_option linter.unusedVariables false
set_option linter.unusedSimpArgs false
namespace Go.Proofs.YteleheamnighkaaDoor
open Go.RowKit Go.DoorKit Go.Proofs.YteleheamnighkaaDoorW.PrintWords
def sec : ByteArray := ⟨#[115, 101, 99, 114, 101, 116]⟩
def mes : ByteArray := ⟨#[109, 101, 115, 115, 97, 103, 101]⟩
theorem hd_p2 (w : World) (hG : Glob w) : Calls Tryd.prog 28 #[.string ⟨#[115, 101, 99, 114, 101, 116]⟩, .int .i64 2] w fun e w' => e = .returned (.tuple #[.string (ofT (Dig.tree (tx sec) 2 0)), .int .i64 0]) ∧ Below w.heap.size w w' :=
  seal_Public.calls sec 2 _ _ w (if_pos (by decide)) hG
theorem hd_p9 (w : World) (hG : Glob w) : Calls Tryd.prog 28 #[.string ⟨#[115, 101, 99, 114, 101, 116]⟩, .int .i64 9] w fun e w' => e = .returned (.tuple #[.string ⟨#[]⟩, .int .i64 1]) ∧ Below w.heap.size w w' :=
  seal_Public.calls sec 9 _ _ w (if_pos (by decide)) hG
def SignOut (w : World) (i : Int) (s p : List ByteArray) (er : Int) (e : Ending) (w' : World) : Prop :=
  ∃ (A1 A2 : Option Addr) (c1 c2 : Nat), e = .returned (.tuple #[.agg #[.int .i64 i, .slice A1 s.length c1, .slice A2 p.length c2], .int .i64 er]) ∧ Kd.C Kd.string w' A1 s.length s ∧ s.length ≤ c1 ∧ Kd.C Kd.string w' A2 p.length p ∧ p.length ≤ c2 ∧ Below w.heap.size w w' ∧ (0 < s.length → ∃ g, A1 = some ⟨g, 0, none⟩)
theorem sign_out {w : World} {f : FuncId} {args : Array Value} {i : Int} {s p : List ByteArray} {er : Int}
    (h : Calls Tryd.prog f args w fun e w' => ∃ v1_ v2_ : Value, e = .returned (.tuple #[.agg #[.int .i64 i, v1_, v2_], .int .i64 er]) ∧ Kd.R Kd.string 9 w' w.heap.size (fun k_ => some k_ ≠ (v2_ : Value).ownBlock) v1_ s ∧ Kd.R Kd.string 9 w' w.heap.size (fun k_ => some k_ ≠ (v1_ : Value).ownBlock) v2_ p ∧ Below w.heap.size w w') :
    Calls Tryd.prog f args w fun e w' => SignOut w i s p er e w' := by
  refine h.mono ?_
  rintro e w' ⟨v1, v2, rfl, h1, h2, hb⟩
  obtain ⟨A1, c1, rfl, hc1, hC1⟩ := Kd.R_reads h1
  obtain ⟨A2, c2, rfl, hc2, hC2⟩ := Kd.R_reads h2
  refine ⟨A1, A2, c1, c2, rfl, hC1, hc1, hC2, hc2, hb, fun hp => ?_⟩
  obtain ⟨g, cap, he, _⟩ := Kd.R_form h1 hp
  injection he with e1 e2 e3
  exact ⟨g, e1⟩
theorem hd_s3 (w : World) (hG : Glob w) : Calls Tryd.prog 30 #[.string ⟨#[115, 101, 99, 114, 101, 116]⟩, .int .i64 2, .int .i64 3, .string ⟨#[109, 101, 115, 115, 97, 103, 101]⟩] w fun e w' => SignOut w 3 (sigL (tx sec) 3 (tx mes)) (pathL (tx sec) 3 2) 0 e w' :=
  sign_out (seal_Sign.calls sec 2 3 mes _ _ _ _ w (if_pos (by decide)) hG)
theorem hd_s4 (w : World) (hG : Glob w) : Calls Tryd.prog 30 #[.string ⟨#[115, 101, 99, 114, 101, 116]⟩, .int .i64 2, .int .i64 4, .string ⟨#[109, 101, 115, 115, 97, 103, 101]⟩] w fun e w' => SignOut w 0 [] [] 1 e w' :=
  sign_out (seal_Sign.calls sec 2 4 mes _ _ _ _ w (if_pos (by decide)) hG)
theorem hd_v1 (w : World) (hG : Glob w) (A1 A2 : Option Addr) (c1 c2 : Nat) (s p : List ByteArray) (hs : s = sigL (tx sec) 3 (tx mes)) (hp : p = pathL (tx sec) 3 2) (h1 : Kd.C Kd.string w A1 s.length s) (h2 : s.length ≤ c1) (h3 : Kd.C Kd.string w A2 p.length p) (h4 : p.length ≤ c2) :
    Calls Tryd.prog 33 #[.string (ofT (Dig.tree (tx sec) 2 0)), .string ⟨#[109, 101, 115, 115, 97, 103, 101]⟩, .agg #[.int .i64 3, .slice A1 s.length c1, .slice A2 p.length c2]] w fun e w' => e = .returned (.bool true) ∧ Below w.heap.size w w' := by
  subst hs hp
  refine seal_Verify.calls _ mes 3 A1 c1 _ A2 c2 _ true w h1 h2 h3 h4 ?_ hG
  unfold seal_Verify.f
  rw [if_pos (verIn_small (by decide) (fun x hx => by rw [sigL_big _ _ _ x hx]; decide) (fun x hx => by rw [pathL_big _ _ _ x hx]; decide) (by rw [sigL_len]; decide) (by rw [pathL_len]; decide))]
  have := ver_sig (tx sec) 2 3 mes (by decide) (by decide) (ofT (Dig.tree (tx sec) 2 0))
  rw [decide_eq_true rfl] at this
  exact congrArg some this
theorem hd_v4 (w : World) (hG : Glob w) (A1 A2 : Option Addr) (c1 c2 : Nat) (s p : List ByteArray) (hs : s = sigL (tx sec) 3 (tx mes)) (hp : p = pathL (tx sec) 3 2) (h1 : Kd.C Kd.string w A1 s.length s) (h2 : s.length ≤ c1) (h3 : Kd.C Kd.string w A2 p.length p) (h4 : p.length ≤ c2) :
    Calls Tryd.prog 33 #[.string ⟨#[]⟩, .string ⟨#[109, 101, 115, 115, 97, 103, 101]⟩, .agg #[.int .i64 3, .slice A1 s.length c1, .slice A2 p.length c2]] w fun e w' => e = .returned (.bool false) ∧ Below w.heap.size w w' := by
  subst hs hp
  refine seal_Verify.calls _ mes 3 A1 c1 _ A2 c2 _ false w h1 h2 h3 h4 ?_ hG
  unfold seal_Verify.f
  rw [if_pos (verIn_small (by decide) (fun x hx => by rw [sigL_big _ _ _ x hx]; decide) (fun x hx => by rw [pathL_big _ _ _ x hx]; decide) (by rw [sigL_len]; decide) (by rw [pathL_len]; decide))]
  have := ver_sig (tx sec) 2 3 mes (by decide) (by decide) ⟨#[]⟩
  rw [decide_eq_false] at this
  · exact congrArg some this
  · intro e
    have h5 := congrArg ByteArray.size e
    rw [size_ofT, tree_len] at h5
    exact absurd h5 (by decide)
theorem ver_no {a0 msg : ByteArray} {i : Int} {l1 l2 : List ByteArray} (h : ¬ verOk i l1 l2) : verR a0 msg i l1 l2 = false := if_neg h
theorem hd_vn (w : World) (hG : Glob w) (r : ByteArray) (A1 A2 : Option Addr) (c1 c2 : Nat) (s p : List ByteArray) (hn : ¬ verOk 3 s p) (hs : ∀ x ∈ s, x.size = 16) (hp : ∀ x ∈ p, x.size = 16) (n1 : s.length ≤ 100) (n2 : p.length ≤ 100) (h1 : Kd.C Kd.string w A1 s.length s) (h2 : s.length ≤ c1) (h3 : Kd.C Kd.string w A2 p.length p) (h4 : p.length ≤ c2) :
    Calls Tryd.prog 33 #[.string r, .string ⟨#[109, 101, 115, 115, 97, 103, 101]⟩, .agg #[.int .i64 3, .slice A1 s.length c1, .slice A2 p.length c2]] w fun e w' => e = .returned (.bool false) ∧ Below w.heap.size w w' := by
  refine seal_Verify.calls _ mes 3 A1 c1 _ A2 c2 _ false w h1 h2 h3 h4 ?_ hG
  unfold seal_Verify.f
  rw [if_pos (verIn_small (by decide) (fun x hx => by rw [hs x hx]; decide) (fun x hx => by rw [hp x hx]; decide) n1 n2), ver_no hn]
set_option maxRecDepth 100000 in
set_option maxHeartbeats 4000000 in
theorem planispherelaw02_head_calls (w : World) (hG : Glob w) : Calls Tryd.prog 25 #[] w fun e w' => e = .returned (.bool true) ∧ Below w.heap.size w w' := by
  obtain ⟨s, hs⟩ : ∃ s, s = sigL (tx sec) 3 (tx mes) := ⟨_, rfl⟩
  obtain ⟨p, hp⟩ : ∃ p, p = pathL (tx sec) 3 2 := ⟨_, rfl⟩
  have hsl : s.length = 18 := by rw [hs, sigL_len]
  have hpl : p.length = 2 := by rw [hp, pathL_len]
  obtain ⟨R, hR⟩ : ∃ R, R = ofT (Dig.tree (tx sec) 2 0) := ⟨_, rfl⟩
  have P2 := Lib.hid (fun w hG => hd_p2 w hG)
  have S3 := Lib.hid (fun w hG => hd_s3 w hG)
  rw [← hR] at P2
  rw [← hs, ← hp] at S3
  have HH := Lib.hid (And.intro hs (And.intro hp (And.intro hsl (And.intro hpl hR))))
  clear hs hp hsl hpl hR
  go_enter Tryd.func25, Tryd.ntmps25
  go_upto_region 4 with (first | (go_at_call 28; ((with_reducible refine (P2.out w hG).mono ?_); rintro e w1 ⟨rfl, b1⟩)) | (go_at_call 28; ((with_reducible refine (hd_p9 w1 (Glob.below hG b1)).mono ?_); rintro e w2 ⟨rfl, b2⟩; have B2 := b1.trans (b2.mono b1.size); clear b1 b2)) | (go_at_call 30; ((with_reducible refine (S3.out w2 (Glob.below hG B2)).mono ?_); rintro e w3 ⟨A1, A2, c1, c2, rfl, hC1, hc1, hC2, hc2, b3, hA1⟩; obtain ⟨g1, rfl⟩ := hA1 (by have := HH.out.2.2.1; omega); clear hA1; have B3 := B2.trans (b3.mono B2.size); clear B2 b3)))
  have K5 := blk_new w3 (.cells #[.int .i64 3, .slice (some ⟨g1, 0, none⟩) s.length c1, .slice A2 p.length c2] 35)
  replace hC1 := Kd.C_alloc hC1 (.cells #[.int .i64 3, .slice (some ⟨g1, 0, none⟩) s.length c1, .slice A2 p.length c2] 35)
  replace hC2 := Kd.C_alloc hC2 (.cells #[.int .i64 3, .slice (some ⟨g1, 0, none⟩) s.length c1, .slice A2 p.length c2] 35)
  have B4 := below_alloc B3 (.cells #[.int .i64 3, .slice (some ⟨g1, 0, none⟩) s.length c1, .slice A2 p.length c2] 35)
  have hg5 : w.heap.size ≤ w3.heap.size := B3.size
  have hl5 : w3.heap.size < (w3.alloc (.cells #[.int .i64 3, .slice (some ⟨g1, 0, none⟩) s.length c1, .slice A2 p.length c2] 35)).heap.size := by simp
  generalize w3.alloc (.cells #[.int .i64 3, .slice (some ⟨g1, 0, none⟩) s.length c1, .slice A2 p.length c2] 35) = W4 at *
  generalize w3.heap.size = g5 at *
  clear B3 P2 S3
  go_upto_region 5 with (first | (go_at_call 30; ((with_reducible refine (hd_s4 W4 (Glob.below hG B4)).mono ?_); rintro e w5 ⟨A1', A2', c1', c2', rfl, -, -, -, -, b5, -⟩; replace K5 := blk_below K5 b5; replace hl5 := Nat.lt_of_lt_of_le hl5 b5.size; replace hC1 := Kd.C_below hC1 b5; replace hC2 := Kd.C_below hC2 b5; replace B4 := B4.trans (b5.mono B4.size); clear b5)))
  have B5 := below_alloc B4 (.cells #[.int .i64 0, .slice A1' 0 c1', .slice A2' 0 c2'] 35)
  replace K5 := blk_alloc K5 (.cells #[.int .i64 0, .slice A1' 0 c1', .slice A2' 0 c2'] 35)
  replace hC1 := Kd.C_alloc hC1 (.cells #[.int .i64 0, .slice A1' 0 c1', .slice A2' 0 c2'] 35)
  replace hC2 := Kd.C_alloc hC2 (.cells #[.int .i64 0, .slice A1' 0 c1', .slice A2' 0 c2'] 35)
  have hl6 := blk_lt K5
  generalize w5.alloc (.cells #[.int .i64 0, .slice A1' 0 c1', .slice A2' 0 c2'] 35) = W5 at *
  have hx0 : W5.cell? ⟨g5, 0, none⟩ = some (.int .i64 3) := (blk_cell K5 0).trans rfl
  have hx1 : W5.cell? ⟨g5, 1, none⟩ = some (.slice (some ⟨g1, 0, none⟩) s.length c1) := (blk_cell K5 1).trans rfl
  have hx2 : W5.cell? ⟨g5, 2, none⟩ = some (.slice A2 p.length c2) := (blk_cell K5 2).trans rfl
  have d1 : ((p.length : Int) == 2) = true := beq_iff_eq.mpr (by have := HH.out.2.2.2.1; omega)
  have d2 : ((p.length : Int) != 2) = false := bne_eq_false_iff_eq.mpr (by have := HH.out.2.2.2.1; omega)
  go_upto_region 7 with (fail)
  clear d1 d2
  go_upto_region 8 with (fail)
  clear hx0 hx1 hx2
  have K9 := blk_new W5 (.cells #[.int .i64 3, .slice (some ⟨g1, 0, none⟩) s.length c1, .slice A2 p.length c2] 35)
  have BB := below_alloc (Below.refl W5.heap.size W5) (.cells #[.int .i64 3, .slice (some ⟨g1, 0, none⟩) s.length c1, .slice A2 p.length c2] 35)
  have hg9 : w.heap.size ≤ W5.heap.size := B5.size
  have hg59 : g5 ≠ W5.heap.size := by omega
  have hl9 := blk_lt K9
  generalize W5.alloc (.cells #[.int .i64 3, .slice (some ⟨g1, 0, none⟩) s.length c1, .slice A2 p.length c2] 35) = W6 at *
  have K5' := blk_below K5 BB
  have hx2 : W6.cell? ⟨g5, 2, none⟩ = some (.slice A2 p.length c2) := (blk_cell K5' 2).trans rfl
  have hy2 : W6.cell? ⟨W5.heap.size, 2, none⟩ = some (.slice A2 p.length c2) := (blk_cell K9 2).trans rfl
  have hf2 := blk_frozen K9 2
  have q1 : (1 : Int) ≤ (c2 : Int) := by have := HH.out.2.2.2.1; omega
  go_upto_region 9 with (fail)
  clear hx2 hy2 hf2
  replace K9 := blk_put (cs' := #[.int .i64 3, .slice (some ⟨g1, 0, none⟩) s.length c1, .slice A2 1 c2]) K9 2 (.slice A2 1 c2) rfl
  replace BB := BB.setCell (p := ⟨W5.heap.size, 2, none⟩) (Nat.le_refl _) (.slice A2 1 c2)
  replace K5' := blk_below K5 BB
  have hl9' := blk_lt K9
  generalize W6.setCell ⟨W5.heap.size, 2, none⟩ (.slice A2 1 c2) = W7 at *
  have hx0 : W7.cell? ⟨g5, 0, none⟩ = some (.int .i64 3) := (blk_cell K5' 0).trans rfl
  have hx1 : W7.cell? ⟨g5, 1, none⟩ = some (.slice (some ⟨g1, 0, none⟩) s.length c1) := (blk_cell K5' 1).trans rfl
  have hx2 : W7.cell? ⟨g5, 2, none⟩ = some (.slice A2 p.length c2) := (blk_cell K5' 2).trans rfl
  go_upto_region 10 with (fail)
  clear hx0 hx1 hx2
  have K10 := blk_new W7 (.cells #[.int .i64 3, .slice (some ⟨g1, 0, none⟩) s.length c1, .slice A2 p.length c2] 35)
  replace K9 := blk_alloc K9 (.cells #[.int .i64 3, .slice (some ⟨g1, 0, none⟩) s.length c1, .slice A2 p.length c2] 35)
  replace BB := below_alloc BB (.cells #[.int .i64 3, .slice (some ⟨g1, 0, none⟩) s.length c1, .slice A2 p.length c2] 35)
  have hg10 : W5.heap.size ≠ W7.heap.size := by omega
  generalize W7.alloc (.cells #[.int .i64 3, .slice (some ⟨g1, 0, none⟩) s.length c1, .slice A2 p.length c2] 35) = W8 at *
  generalize W7.heap.size = g10 at *
  replace K5' := blk_below K5 BB
  have hx1 : W8.cell? ⟨g5, 1, none⟩ = some (.slice (some ⟨g1, 0, none⟩) s.length c1) := (blk_cell K5' 1).trans rfl
  have hy1 : W8.cell? ⟨g10, 1, none⟩ = some (.slice (some ⟨g1, 0, none⟩) s.length c1) := (blk_cell K10 1).trans rfl
  have hf1 := blk_frozen K10 1
  have q2 : (1 : Int) ≤ (s.length : Int) := by have := HH.out.2.2.1; omega
  have q3 : ¬ c1 = 1 := by have := HH.out.2.2.1; omega
  have q4 : (s.length : Int) ≤ (c1 : Int) := by omega
  go_upto_region 11 with (fail)
  clear hx1 hy1 hf1
  replace K9 := blk_far K9 (p := ⟨g10, 1, none⟩) (by show W5.heap.size ≠ g10; omega) (.slice (some ⟨g1, 1, none⟩) (s.length - 1) (c1 - 1))
  replace K10 := blk_put (cs' := #[.int .i64 3, .slice (some ⟨g1, 1, none⟩) (s.length - 1) (c1 - 1), .slice A2 p.length c2]) K10 1 (.slice (some ⟨g1, 1, none⟩) (s.length - 1) (c1 - 1)) rfl
  replace BB := BB.setCell (p := ⟨g10, 1, none⟩) (by show W5.heap.size ≤ g10; omega) (.slice (some ⟨g1, 1, none⟩) (s.length - 1) (c1 - 1))
  clear K5'
  have K5' := blk_below K5 BB
  generalize W8.setCell ⟨g10, 1, none⟩ (.slice (some ⟨g1, 1, none⟩) (s.length - 1) (c1 - 1)) = W9 at *
  have hsl : s.length = 18 := HH.out.2.2.1
  have hpl : p.length = 2 := HH.out.2.2.2.1
  have hsb : ∀ x ∈ s, x.size = 16 := by rw [HH.out.1]; exact sigL_big _ _ _
  have hpb : ∀ x ∈ p, x.size = 16 := by rw [HH.out.2.1]; exact pathL_big _ _ _
  have hGw : ∀ W, Below W5.heap.size W5 W → Glob W := fun W hW => Glob.below hG (B5.trans (hW.mono B5.size))
  have V1 := Lib.hid (fun (W : World) (hW : Below W5.heap.size W5 W) => hd_v1 W (hGw W hW) (some ⟨g1, 0, none⟩) A2 c1 c2 s p HH.out.1 HH.out.2.1 (Kd.C_below hC1 hW) hc1 (Kd.C_below hC2 hW) hc2)
  have V4 := Lib.hid (fun (W : World) (hW : Below W5.heap.size W5 W) => hd_v4 W (hGw W hW) (some ⟨g1, 0, none⟩) A2 c1 c2 s p HH.out.1 HH.out.2.1 (Kd.C_below hC1 hW) hc1 (Kd.C_below hC2 hW) hc2)
  have hp1 : (p.take 1).length = 1 := by rw [List.length_take]; omega
  have hs1 : (s.drop 1).length = s.length - 1 := List.length_drop
  have V2 := Lib.hid (fun (W : World) (hW : Below W5.heap.size W5 W) => hd_vn W (hGw W hW) R (some ⟨g1, 0, none⟩) A2 c1 c2 s (p.take 1) (fun k => absurd k.2.2.2.2.2 (by rw [hp1]; decide)) hsb (fun x hx => hpb x (List.mem_of_mem_take hx)) (by omega) (by omega)
    (Kd.C_below hC1 hW) hc1 (Kd.C_take (Kd.C_below hC2 hW) (by omega)) (by omega))
  have V3 := Lib.hid (fun (W : World) (hW : Below W5.heap.size W5 W) => hd_vn W (hGw W hW) R (some ⟨g1, 1, none⟩) A2 (c1 - 1) c2 (s.drop 1) p (fun k => absurd k.1 (by omega)) (fun x hx => hsb x (List.mem_of_mem_drop hx)) hpb (by omega) (by omega)
    (by have := Kd.C_drop (m := 1) (Kd.C_below hC1 hW) (by omega) hc1
        rw [if_neg q3] at this
        exact this) (by omega) (Kd.C_below hC2 hW) hc2)
  rw [hp1] at V2
  rw [hs1] at V3
  rw [← HH.out.2.2.2.2] at V1
  have BB' := Lib.hid BB
  clear BB hsl hpl hsb hpb hGw hp1 hs1 hC1 hC2 K5 hc1 hc2 q1 q2 q3 q4 hg5 hl5 hl6 hg59 hl9 hl9' hg10 B4
  have x0 : W9.cell? ⟨g5, 0, none⟩ = some (.int .i64 3) := (blk_cell K5' 0).trans rfl
  have x1 : W9.cell? ⟨g5, 1, none⟩ = some (.slice (some ⟨g1, 0, none⟩) s.length c1) := (blk_cell K5' 1).trans rfl
  have x2 : W9.cell? ⟨g5, 2, none⟩ = some (.slice A2 p.length c2) := (blk_cell K5' 2).trans rfl
  go_wp2_with (first
    | (go_at_call 33; ((with_reducible refine (V1.out W9 BB'.out).mono ?_); rintro e w10 ⟨rfl, b10⟩; have k5 := blk_below K5' b10; have k9 := blk_below K9 b10; have k10 := blk_below K10 b10; have BA := Lib.hid (BB'.out.trans (b10.mono BB'.out.size)); have y0 : w10.cell? ⟨W5.heap.size, 0, none⟩ = some (.int .i64 3) := (blk_cell k9 0).trans rfl; have y1 : w10.cell? ⟨W5.heap.size, 1, none⟩ = some (.slice (some ⟨g1, 0, none⟩) s.length c1) := (blk_cell k9 1).trans rfl; have y2 : w10.cell? ⟨W5.heap.size, 2, none⟩ = some (.slice A2 1 c2) := (blk_cell k9 2).trans rfl; clear b10))
    | (go_at_call 33; ((with_reducible refine (V2.out w10 BA.out).mono ?_); rintro e w11 ⟨rfl, b11⟩; replace k5 := blk_below k5 b11; replace k10 := blk_below k10 b11; have BC := Lib.hid (BA.out.trans (b11.mono BA.out.size)); have z0 : w11.cell? ⟨g10, 0, none⟩ = some (.int .i64 3) := (blk_cell k10 0).trans rfl; have z1 : w11.cell? ⟨g10, 1, none⟩ = some (.slice (some ⟨g1, 1, none⟩) (s.length - 1) (c1 - 1)) := (blk_cell k10 1).trans rfl; have z2 : w11.cell? ⟨g10, 2, none⟩ = some (.slice A2 p.length c2) := (blk_cell k10 2).trans rfl; clear b11))
    | (go_at_call 33; ((with_reducible refine (V3.out w11 BC.out).mono ?_); rintro e w12 ⟨rfl, b12⟩; replace k5 := blk_below k5 b12; have BD := Lib.hid (BC.out.trans (b12.mono BC.out.size)); have v0 : w12.cell? ⟨g5, 0, none⟩ = some (.int .i64 3) := (blk_cell k5 0).trans rfl; have v1 : w12.cell? ⟨g5, 1, none⟩ = some (.slice (some ⟨g1, 0, none⟩) s.length c1) := (blk_cell k5 1).trans rfl; have v2 : w12.cell? ⟨g5, 2, none⟩ = some (.slice A2 p.length c2) := (blk_cell k5 2).trans rfl; clear b12))
    | (go_at_call 33; ((with_reducible refine (V4.out w12 BD.out).mono ?_); rintro e w13 ⟨rfl, b13⟩; have BE := Lib.hid (BD.out.trans (b13.mono BD.out.size)); clear b13)))
  go_ret
  exact ⟨rfl, B5.trans (BE.out.mono hg9)⟩
def planispherelaw02_head.f : Option Bool := some true
theorem planispherelaw02_head.calls (r : Bool) (w : World) (h : planispherelaw02_head.f = some r) (hG : Glob w) :
    Calls Tryd.prog 25 #[] w fun e w' => e = .returned (.bool r) ∧ Below w.heap.size w w' := by
  obtain rfl := Option.some.inj h
  exact planispherelaw02_head_calls w hG
end Go.Proofs.YteleheamnighkaaDoor
end
section
namespace Go.Proofs.YteleheamnighkaaDoor.PSSound
open Go.RowKit Go.Proofs.YteleheamnighkaaDoorW.PrintWords Go.Proofs.YteleheamnighkaaDoorW.PrintLast Go.Proofs.YteleheamnighkaaDoorW.PrintMore
attribute [local go_sem] max2_int min2_int max_two min_two max_three min_three max_four min_four   -- for this text's walks alone
set_option linter.unusedVariables false
set_option linter.unusedSimpArgs false
def errW : Option Int → Value
  | none => .nilIface
  | some c => .iface 0 (.int .i64 c)
theorem errW_none : errW none = .nilIface := rfl
theorem errW_some (c : Int) : errW (some c) = .iface 0 (.int .i64 c) := rfl
theorem info9 : (Tryd.prog.info? 9).map (fun i => (i.zero, i.size, i.bytes)) = some (some (.string ⟨#[]⟩), 1, 16) := by kernel_rfl
end Go.Proofs.YteleheamnighkaaDoor.PSSound
end
section
namespace Go.Proofs.YteleheamnighkaaDoor.PSSound
open Go.RowKit Go.Proofs.YteleheamnighkaaDoorW.PrintWords Go.Proofs.YteleheamnighkaaDoorW.PrintLast Go.Proofs.YteleheamnighkaaDoorW.PrintMore
attribute [local go_sem] max2_int min2_int max_two min_two max_three min_three max_four min_four   -- for this text's walks alone
set_option linter.unusedVariables false
set_option linter.unusedSimpArgs false
mutual
def planispherelaw02_SealSound.j0 : Nat → ByteArray → ByteArray → Bool → Int → Bool → Int → List ByteArray → List ByteArray → Option (Bool)
  | 0, _, _, _, _, _, _, _, _ => none
  | k + 1, x0, x2, x9, x10, x28, x102000, x102001, x102002 => if x28 = true then (some x9) else ((seal_Public.f x0 x10).bind fun bt108 => (if bt108.2 = 0 then ((seal_Verify.f bt108.1 x2 x102000 x102001 x102002).bind fun t110 => (if t110 = true then ((seal_Sign.f x0 x10 x102000 x2).bind fun bt111 => (if bt111.2.2.2 = 0 then ((planisphereref02_Same.f bt111.1 bt111.2.1 bt111.2.2.1 x102000 x102001 x102002).bind fun t120 => (planispherelaw02_SealSound.j1 k x0 x2 x9 x10 t120 x102000 x102001 x102002)) else (planispherelaw02_SealSound.j1 k x0 x2 x9 x10 false x102000 x102001 x102002))) else (some x9))) else (some false)))
def planispherelaw02_SealSound.j1 : Nat → ByteArray → ByteArray → Bool → Int → Bool → Int → List ByteArray → List ByteArray → Option (Bool)
  | 0, _, _, _, _, _, _, _, _ => none
  | k + 1, x0, x2, x9, x10, x59, x102000, x102001, x102002 => if x59 = true then (some x9) else (if x9 = true then ((planisphereref02_Made.f x0 x10 15).bind fun t121 => ((planisphereref02_Checked.f x2 x102000 x102001 x102002).bind fun t124 => (if t121.length + t124.length < 8796093022208 then ((planisphereref02_Shown.f (t121 ++ t124)).bind fun t130 => (some t130)) else (none)))) else (some false))
end
def planispherelaw02_SealSound.f (k : Nat) (a0 : ByteArray) (a1 : Int) (a2 : ByteArray) (a3_0 : Int) (l3_1 : List ByteArray) (l3_2 : List ByteArray) : Option (Bool) := (planispherelaw02_head.f).bind fun t102 => ((planispherelaw02_short.f (([a0, a2] : List ByteArray))).bind fun t106 => (if t106 = true then ((planisphereref02_Few.f a3_0 l3_1 l3_2).bind fun t107 => (planispherelaw02_SealSound.j0 k a0 a2 t102 (Int.tmod (wrap64 (a1)) 3) (!t107) a3_0 l3_1 l3_2)) else (planispherelaw02_SealSound.j0 k a0 a2 t102 (Int.tmod (wrap64 (a1)) 3) true a3_0 l3_1 l3_2)))
def planispherelaw02_SealSound.T13 : Bool × List (List Nat × List Nat) := (true, [([], []), ([0], [0]), ([1], [1]), ([1], [1]), ([2, 3, 1, 1], [1, 2, 3]), ([1], [1]), ([1], [1]), ([5, 6, 4, 1], [1, 5, 6]), ([4, 7, 7, 1], [1, 4, 7]), ([8, 8, 1], [1, 8]), ([1, 9], [1, 9]), ([10, 9, 0, 1, 2, 3, 4, 5, 6, 7, 8, 9, 10], [10])])
def planispherelaw02_SealSound.B13 : List Nat := [0, 1, 3, 3, 15, 3, 3, 127, 255, 511, 1023, 2047]
theorem planispherelaw02_SealSound.tab13 : rtab .any (opsOf Tryd.f10 13) = planispherelaw02_SealSound.T13 := by kernel_rfl
theorem planispherelaw02_SealSound.bits13 : waitsOk planispherelaw02_SealSound.T13.2 planispherelaw02_SealSound.B13 = true := by kernel_rfl
set_option maxHeartbeats 8000000 in
set_option maxRecDepth 100000 in
theorem planispherelaw02_SealSound.calls (k : Nat) (a0 : ByteArray) (a1 : Int) (a2 : ByteArray) (a3_0 : Int) (A3_1 : Option Addr) (c3_1 : Nat) (l3_1 : List ByteArray) (A3_2 : Option Addr) (c3_2 : Nat) (l3_2 : List ByteArray) (r : Bool) (w : World) (hr3_1 : Kd.C Kd.string w A3_1 l3_1.length l3_1) (hc3_1 : l3_1.length ≤ c3_1) (hr3_2 : Kd.C Kd.string w A3_2 l3_2.length l3_2) (hc3_2 : l3_2.length ≤ c3_2) (h : planispherelaw02_SealSound.f k a0 a1 a2 a3_0 l3_1 l3_2 = some r) (hG : Glob w) :
    Calls Tryd.prog 10 #[.string a0, .int .u8 a1, .string a2, .agg #[.int .i64 a3_0, .slice A3_1 l3_1.length c3_1, .slice A3_2 l3_2.length c3_2]] w fun e w' => e = .returned (.bool r) ∧ Below w.heap.size w w' := by
  have HG_ := Aside0.mk hG
  clear hG
  have hu35 := Tryd.underlying35
  have HR3_1 := Aside0.mk hr3_1
  have HC3_1 := Aside0.mk hc3_1
  clear hr3_1 hc3_1
  have HR3_2 := Aside0.mk hr3_2
  have HC3_2 := Aside0.mk hc3_2
  clear hr3_2 hc3_2
  have HB := Aside0.mk (Below.refl w.heap.size w)
  have H : ((planispherelaw02_head.f).bind fun t102 => ((planispherelaw02_short.f (([a0, a2] : List ByteArray))).bind fun t106 => (if t106 = true then ((planisphereref02_Few.f a3_0 l3_1 l3_2).bind fun t107 => (planispherelaw02_SealSound.j0 k a0 a2 t102 (Int.tmod (wrap64 (a1)) 3) (!t107) a3_0 l3_1 l3_2)) else (planispherelaw02_SealSound.j0 k a0 a2 t102 (Int.tmod (wrap64 (a1)) 3) true a3_0 l3_1 l3_2)))) = some r := h
  clear h
  replace H := Option.bind_eq_some_iff.mp H
  obtain ⟨t102, A50, H⟩ := H
  replace H : ((planispherelaw02_short.f (([a0, a2] : List ByteArray))).bind fun t106 => (if t106 = true then ((planisphereref02_Few.f a3_0 l3_1 l3_2).bind fun t107 => (planispherelaw02_SealSound.j0 k a0 a2 t102 (Int.tmod (wrap64 (a1)) 3) (!t107) a3_0 l3_1 l3_2)) else (planispherelaw02_SealSound.j0 k a0 a2 t102 (Int.tmod (wrap64 (a1)) 3) true a3_0 l3_1 l3_2))) = some r := H
  have A5 := Aside0.mk A50
  clear A50
  have HC6 := Aside0.mk H
  clear H
  go_enter Tryd.func10, Tryd.ntmps10
  go_upto_region 3 with (first | ((with_reducible refine gate_dst (N := 7) rfl ?_); (try (refine gate_guard (by rfl) ?_; dsimp only)); refine box_event ?hg (N := 7) ?hd (cs := #[.int .i64 a3_0, .slice A3_1 l3_1.length c3_1, .slice A3_2 l3_2.length c3_2]) (t := 35) ?hr ?_; (case hd => rfl); (case hg => rfl); (case hr => first | (go_simp; done) | (go_simp; rfl)); intro gb101 hg w7 hbox hb; have n0_ := Aside0.mk (below_step (by repeat (first | (with_reducible first | exact HB.out | apply below_alloc | apply pw_below_drewN | apply below_drew1) | exact HB.out)) hb); have n1_ := Aside0.mk (hbox); have n2_ := Aside0.mk ((by rw [hg]; exact (below_size (by repeat (first | (with_reducible first | exact HB.out | apply below_alloc | apply pw_below_drewN | apply below_drew1) | exact HB.out))) : w.heap.size ≤ gb101)); have n3_ := Aside0.mk ((by rw [hg]; exact (below_size (by repeat (first | (with_reducible first | exact HB.out | apply below_alloc | apply pw_below_drewN | apply below_drew1) | exact HB.out))) : w.heap.size ≤ gb101)); clear HB; have HB := n0_; have BK101 := n1_; have GW101 := n2_; have GE101 := n3_; clear n0_ n1_ n2_ n3_; clear hb hbox hg) | ((with_reducible refine gate_callee (f := 25) rfl ?_); refine goesL_ (some 15) rfl rfl Tryd.func25 (by kernel_rfl) rfl #[] rfl (by (try simp only [List.map_toArray, List.map_cons, List.map_nil]); first | done | rfl | (simp only [List.length_drop, List.length_take]; rfl)) ?_; (with_reducible refine (planispherelaw02_head.calls  t102 _ A5.out (hG := ?hGl)).mono ?_); clear A5; (case hGl => exact (Glob.below HG_.out (by repeat (first | (with_reducible first | exact HB.out | apply below_alloc | apply pw_below_drewN | apply below_drew1) | exact HB.out)))); rintro e w8 ⟨rfl, hb⟩; refine ⟨_, rfl, ?_⟩; have n0_ := Aside0.mk (blk_below (g := gb101) (o := .cells #[.int .i64 a3_0, .slice A3_1 l3_1.length c3_1, .slice A3_2 l3_2.length c3_2] 35 (0, 0)) (by (with_reducible repeat (first | refine blk_drewN ?_ _ | refine blk_drew ?_ | refine blk_alloc ?_ _)); exact BK101.out) hb); have n1_ := Aside0.mk (below_step (by repeat (first | (with_reducible first | exact HB.out | apply below_alloc | apply pw_below_drewN | apply below_drew1 | refine below_set ?_ GE101.out) | exact HB.out)) hb); clear BK101; clear HB; have BK101 := n0_; have HB := n1_; clear n0_ n1_; (try clear hb); (try clear hb2); (try clear hk); (try clear hi)))
  (try simp only [Act.put, List.setIfInBounds_toArray, List.set_cons_zero, List.set_cons_succ])
  go_cut [28] (fun v28 wc => ∃ (kq : Nat) (x28_5 : Bool), v28 = .bool x28_5 ∧ Aside0 (planispherelaw02_SealSound.j0 kq a0 a2 t102 (Int.tmod (wrap64 (a1)) 3) x28_5 a3_0 l3_1 l3_2 = some r) ∧ Aside0 (kq ≤ k) ∧ Aside0 (wc.heap[gb101]? = some (.cells #[.int .i64 a3_0, (.slice A3_1 l3_1.length c3_1), (.slice A3_2 l3_2.length c3_2)] 35 (0, 0))) ∧ Aside0 (Below w.heap.size w wc))
  case first =>
    have H := HC6.out
    clear HC6
    obtain ⟨y103, hy103⟩ : ∃ y_ : List ByteArray, y_ = (([a0, a2] : List ByteArray)) := ⟨_, rfl⟩
    replace H : ((planispherelaw02_short.f y103).bind fun t106 => (if t106 = true then ((planisphereref02_Few.f a3_0 l3_1 l3_2).bind fun t107 => (planispherelaw02_SealSound.j0 k a0 a2 t102 (Int.tmod (wrap64 (a1)) 3) (!t107) a3_0 l3_1 l3_2)) else (planispherelaw02_SealSound.j0 k a0 a2 t102 (Int.tmod (wrap64 (a1)) 3) true a3_0 l3_1 l3_2))) = some r := by first | (rw [hy103]; with_reducible exact H) | (have H2_ := (Option.bind_some _ _).symm.trans H; rw [hy103]; with_reducible exact H2_) | (have H2_ := (Option.bind_some _ _).symm.trans H; with_reducible exact H2_) | with_reducible exact H | (rw [hy103]; exact H) | exact H
    have Ny103 := Aside0.mk hy103
    clear hy103
    replace H := Option.bind_eq_some_iff.mp H
    obtain ⟨t106, A90, H⟩ := H
    replace H : (if t106 = true then ((planisphereref02_Few.f a3_0 l3_1 l3_2).bind fun t107 => (planispherelaw02_SealSound.j0 k a0 a2 t102 (Int.tmod (wrap64 (a1)) 3) (!t107) a3_0 l3_1 l3_2)) else (planispherelaw02_SealSound.j0 k a0 a2 t102 (Int.tmod (wrap64 (a1)) 3) true a3_0 l3_1 l3_2)) = some r := H
    have A9 := Aside0.mk A90
    clear A90
    by_cases c10 : t106 = true
    · subst c10
      have H1 : ((planisphereref02_Few.f a3_0 l3_1 l3_2).bind fun t107 => (planispherelaw02_SealSound.j0 k a0 a2 t102 (Int.tmod (wrap64 (a1)) 3) (!t107) a3_0 l3_1 l3_2)) = some r := by rw [if_pos rfl] at H; exact H
      clear H
      have H := H1
      clear H1
      replace H := Option.bind_eq_some_iff.mp H
      obtain ⟨t107, A110, H⟩ := H
      replace H : (planispherelaw02_SealSound.j0 k a0 a2 t102 (Int.tmod (wrap64 (a1)) 3) (!t107) a3_0 l3_1 l3_2) = some r := H
      have A11 := Aside0.mk A110
      clear A110
      have H' := Aside0.mk H
      clear H
      go_wp2_with (first | ((with_reducible refine gate_dst (N := 21) rfl ?_); (try (refine gate_guard (by rfl) ?_; dsimp only)); refine Kd.R_lit Kd.string _ 9 ?hg (N := 21) ?hd (xs := ([a0, a2] : List ByteArray)) (inner := [.string a0, .string a2]) (ok := fun _ => True) (okp := fun _ => True) ?hr ?hp (fun _ hk => hk) trivial (Below.refl _ _) (Nat.le_refl _) (by simp) ?_; (case hd => rfl); (case hg => rfl); (case hr => first | (go_simp; done) | (go_simp; rfl)); (case hp => exact (Reps.one (show Kd.M Kd.string _ _ _ a0 [.string a0] from rfl) (Reps.one (show Kd.M Kd.string _ _ _ a2 [.string a2] from rfl) (Reps.none _ _)))); intro v104 w12 ho13 hb hg_ hnew_; clear hg_ hnew_; (first | rw [← Ny103.out] at ho13 | (simp only [Int.reduceToNat] at ho13; rw [← Ny103.out] at ho13)); have n0_ := Aside0.mk (Kd.R_lower ho13 (below_size (by repeat (first | (with_reducible first | exact HB.out | apply below_alloc | apply pw_below_drewN | apply below_drew1 | refine below_set ?_ GE101.out) | exact HB.out)))); have n1_ := Aside0.mk (blk_below (g := gb101) (o := .cells #[.int .i64 a3_0, .slice A3_1 l3_1.length c3_1, .slice A3_2 l3_2.length c3_2] 35 (0, 0)) (by (with_reducible repeat (first | refine blk_drewN ?_ _ | refine blk_drew ?_ | refine blk_alloc ?_ _)); exact BK101.out) hb); have n2_ := Aside0.mk (below_step (by repeat (first | (with_reducible first | exact HB.out | apply below_alloc | apply pw_below_drewN | apply below_drew1 | refine below_set ?_ GE101.out) | exact HB.out)) hb); clear BK101; clear HB; have HO105 := n0_; have BK101 := n1_; have HB := n2_; clear n0_ n1_ n2_; clear hb ho13; obtain ⟨Ao14, co14, eo14⟩ := Kd.R_slice HO105.out; subst eo14) | ((with_reducible refine gate_callee (f := 26) rfl ?_); refine goesL_ (some 22) rfl rfl Tryd.func26 (by kernel_rfl) rfl #[.slice Ao14 y103.length co14] rfl (by (try simp only [List.map_toArray, List.map_cons, List.map_nil]); first | done | rfl | (simp only [List.length_drop, List.length_take]; rfl)) ?_; (with_reducible refine (planispherelaw02_short.callsB _ _ y103 true _ ?side1 ?side2 A9.out).mono ?_); clear A9; (case side1 => repeat (first | exact (Kd.R_reads' HO105.out).2.2 | (with_reducible refine Kd.C_alloc ?_ _) | (with_reducible refine Kd.C_drewN ?_ _) | (with_reducible refine Kd.C_drew ?_))); (case side2 => exact (Kd.R_reads' HO105.out).2.1); rintro e w15 ⟨rfl, hb⟩; refine ⟨_, rfl, ?_⟩; have n0_ := Aside0.mk (Kd.R_below (by (with_reducible repeat (first | apply Kd.R_alloc | apply Kd.R_drewN | apply Kd.R_drew)); exact HO105.out) hb); have n1_ := Aside0.mk (blk_below (g := gb101) (o := .cells #[.int .i64 a3_0, .slice A3_1 l3_1.length c3_1, .slice A3_2 l3_2.length c3_2] 35 (0, 0)) (by (with_reducible repeat (first | refine blk_drewN ?_ _ | refine blk_drew ?_ | refine blk_alloc ?_ _)); exact BK101.out) hb); have n2_ := Aside0.mk (below_step (by repeat (first | (with_reducible first | exact HB.out | apply below_alloc | apply pw_below_drewN | apply below_drew1 | refine below_set ?_ GE101.out) | exact HB.out)) hb); clear HO105; clear BK101; clear HB; have HO105 := n0_; have BK101 := n1_; have HB := n2_; clear n0_ n1_ n2_; (try clear hb); (try clear hb2); (try clear hk); (try clear hi); have hcz16_0 : w15.cell? ⟨gb101, 0, none⟩ = some (.int .i64 a3_0) := (blk_cell BK101.out 0).trans rfl; have hcz16_1 : w15.cell? ⟨gb101, 1, none⟩ = some (.slice A3_1 l3_1.length c3_1) := (blk_cell BK101.out 1).trans rfl; have hcz16_2 : w15.cell? ⟨gb101, 2, none⟩ = some (.slice A3_2 l3_2.length c3_2) := (blk_cell BK101.out 2).trans rfl; have hfz16_0 := blk_frozen BK101.out 0; have hfz16_1 := blk_frozen BK101.out 1; have hfz16_2 := blk_frozen BK101.out 2) | (go_at_call 27; (with_reducible refine (planisphereref02_Few.calls a3_0 _ _ l3_1 _ _ l3_2 t107 _ ?side1 ?side2 ?side3 ?side4 A11.out).mono ?_); clear A11; (case side1 => repeat (first | exact (Kd.C_below HR3_1.out HB.out) | (with_reducible refine Kd.C_alloc ?_ _) | (with_reducible refine Kd.C_drewN ?_ _) | (with_reducible refine Kd.C_drew ?_))); (case side2 => exact HC3_1.out); (case side3 => repeat (first | exact (Kd.C_below HR3_2.out HB.out) | (with_reducible refine Kd.C_alloc ?_ _) | (with_reducible refine Kd.C_drewN ?_ _) | (with_reducible refine Kd.C_drew ?_))); (case side4 => exact HC3_2.out); rintro e w17 ⟨rfl, hb⟩; have n0_ := Aside0.mk (Kd.R_below (by (with_reducible repeat (first | apply Kd.R_alloc | apply Kd.R_drewN | apply Kd.R_drew)); exact HO105.out) hb); have n1_ := Aside0.mk (blk_below (g := gb101) (o := .cells #[.int .i64 a3_0, .slice A3_1 l3_1.length c3_1, .slice A3_2 l3_2.length c3_2] 35 (0, 0)) (by (with_reducible repeat (first | refine blk_drewN ?_ _ | refine blk_drew ?_ | refine blk_alloc ?_ _)); exact BK101.out) hb); have n2_ := Aside0.mk (below_step (by repeat (first | (with_reducible first | exact HB.out | apply below_alloc | apply pw_below_drewN | apply below_drew1 | refine below_set ?_ GE101.out) | exact HB.out)) hb); clear HO105; clear BK101; clear HB; have HO105 := n0_; have BK101 := n1_; have HB := n2_; clear n0_ n1_ n2_; (try clear hb); (try clear hb2); (try clear hk); (try clear hi)))
      go_meet
      case rel => exact ⟨_, (!t107), (by first | rfl | (simp; done) | (simp [*]; done)), H', ⟨by first | omega | exact Nat.le_refl _⟩, ⟨by (with_reducible repeat (first | refine blk_drewN ?_ _ | refine blk_drew ?_ | refine blk_alloc ?_ _)); exact BK101.out⟩, ⟨by repeat (first | (with_reducible first | exact HB.out | apply below_alloc | apply pw_below_drewN | apply below_drew1 | refine below_set ?_ GE101.out) | exact HB.out)⟩⟩
    · replace c10 := Bool.eq_false_iff.mpr c10
      subst c10
      have H1 : (planispherelaw02_SealSound.j0 k a0 a2 t102 (Int.tmod (wrap64 (a1)) 3) true a3_0 l3_1 l3_2) = some r := by rw [if_neg (show ¬ (false = true) by decide)] at H; exact H
      clear H
      have H := H1
      clear H1
      have H' := Aside0.mk H
      clear H
      go_wp2_with (first | ((with_reducible refine gate_dst (N := 21) rfl ?_); (try (refine gate_guard (by rfl) ?_; dsimp only)); refine Kd.R_lit Kd.string _ 9 ?hg (N := 21) ?hd (xs := ([a0, a2] : List ByteArray)) (inner := [.string a0, .string a2]) (ok := fun _ => True) (okp := fun _ => True) ?hr ?hp (fun _ hk => hk) trivial (Below.refl _ _) (Nat.le_refl _) (by simp) ?_; (case hd => rfl); (case hg => rfl); (case hr => first | (go_simp; done) | (go_simp; rfl)); (case hp => exact (Reps.one (show Kd.M Kd.string _ _ _ a0 [.string a0] from rfl) (Reps.one (show Kd.M Kd.string _ _ _ a2 [.string a2] from rfl) (Reps.none _ _)))); intro v104 w18 ho19 hb hg_ hnew_; clear hg_ hnew_; (first | rw [← Ny103.out] at ho19 | (simp only [Int.reduceToNat] at ho19; rw [← Ny103.out] at ho19)); have n0_ := Aside0.mk (Kd.R_lower ho19 (below_size (by repeat (first | (with_reducible first | exact HB.out | apply below_alloc | apply pw_below_drewN | apply below_drew1 | refine below_set ?_ GE101.out) | exact HB.out)))); have n1_ := Aside0.mk (blk_below (g := gb101) (o := .cells #[.int .i64 a3_0, .slice A3_1 l3_1.length c3_1, .slice A3_2 l3_2.length c3_2] 35 (0, 0)) (by (with_reducible repeat (first | refine blk_drewN ?_ _ | refine blk_drew ?_ | refine blk_alloc ?_ _)); exact BK101.out) hb); have n2_ := Aside0.mk (below_step (by repeat (first | (with_reducible first | exact HB.out | apply below_alloc | apply pw_below_drewN | apply below_drew1 | refine below_set ?_ GE101.out) | exact HB.out)) hb); clear BK101; clear HB; have HO105 := n0_; have BK101 := n1_; have HB := n2_; clear n0_ n1_ n2_; clear hb ho19; obtain ⟨Ao20, co20, eo20⟩ := Kd.R_slice HO105.out; subst eo20) | ((with_reducible refine gate_callee (f := 26) rfl ?_); refine goesL_ (some 22) rfl rfl Tryd.func26 (by kernel_rfl) rfl #[.slice Ao20 y103.length co20] rfl (by (try simp only [List.map_toArray, List.map_cons, List.map_nil]); first | done | rfl | (simp only [List.length_drop, List.length_take]; rfl)) ?_; (with_reducible refine (planispherelaw02_short.callsB _ _ y103 false _ ?side1 ?side2 A9.out).mono ?_); clear A9; (case side1 => repeat (first | exact (Kd.R_reads' HO105.out).2.2 | (with_reducible refine Kd.C_alloc ?_ _) | (with_reducible refine Kd.C_drewN ?_ _) | (with_reducible refine Kd.C_drew ?_))); (case side2 => exact (Kd.R_reads' HO105.out).2.1); rintro e w21 ⟨rfl, hb⟩; refine ⟨_, rfl, ?_⟩; have n0_ := Aside0.mk (Kd.R_below (by (with_reducible repeat (first | apply Kd.R_alloc | apply Kd.R_drewN | apply Kd.R_drew)); exact HO105.out) hb); have n1_ := Aside0.mk (blk_below (g := gb101) (o := .cells #[.int .i64 a3_0, .slice A3_1 l3_1.length c3_1, .slice A3_2 l3_2.length c3_2] 35 (0, 0)) (by (with_reducible repeat (first | refine blk_drewN ?_ _ | refine blk_drew ?_ | refine blk_alloc ?_ _)); exact BK101.out) hb); have n2_ := Aside0.mk (below_step (by repeat (first | (with_reducible first | exact HB.out | apply below_alloc | apply pw_below_drewN | apply below_drew1 | refine below_set ?_ GE101.out) | exact HB.out)) hb); clear HO105; clear BK101; clear HB; have HO105 := n0_; have BK101 := n1_; have HB := n2_; clear n0_ n1_ n2_; (try clear hb); (try clear hb2); (try clear hk); (try clear hi)))
      go_meet
      case rel => exact ⟨_, (true), (by first | rfl | (simp; done) | (simp [*]; done)), H', ⟨by first | omega | exact Nat.le_refl _⟩, ⟨by (with_reducible repeat (first | refine blk_drewN ?_ _ | refine blk_drew ?_ | refine blk_alloc ?_ _)); exact BK101.out⟩, ⟨by repeat (first | (with_reducible first | exact HB.out | apply below_alloc | apply pw_below_drewN | apply below_drew1 | refine below_set ?_ GE101.out) | exact HB.out)⟩⟩
  case rest =>
    clear HC6
    try clear c1
    try clear c2
    try clear p2
    try clear c3
    try clear p6
    try clear c10
    try clear hcz16_0
    try clear hcz16_1
    try clear hcz16_2
    try clear hfz16_0
    try clear hfz16_1
    try clear hfz16_2
    obtain ⟨kq, x28_5, rfl, HA, HJ5, BK101, HB⟩ := hcut
    cases kq with
    | zero => exact absurd HA.out (by simp [planispherelaw02_SealSound.j0])
    | succ kj5 =>
      have H := HA.out
      clear HA
      simp only [planispherelaw02_SealSound.j0] at H
      by_cases c22 : x28_5 = true
      · subst c22
        have H1 : (some t102) = some r := by rw [if_pos rfl] at H; exact H
        clear H
        have H := H1
        clear H1
        obtain rfl := Option.some.inj H
        go_wp2
        go_ret
        exact ⟨by first | rfl | (simp [errW_none, errW_some] <;> rfl) | (simp [*, errW_none, errW_some] <;> rfl), by repeat (first | (with_reducible first | exact HB.out | apply below_alloc | apply pw_below_drewN | apply below_drew1 | refine below_set ?_ GE101.out) | exact HB.out)⟩
      · replace c22 := Bool.eq_false_iff.mpr c22
        subst c22
        have H1 : ((seal_Public.f a0 (Int.tmod (wrap64 (a1)) 3)).bind fun bt108 => (if bt108.2 = 0 then ((seal_Verify.f bt108.1 a2 a3_0 l3_1 l3_2).bind fun t110 => (if t110 = true then ((seal_Sign.f a0 (Int.tmod (wrap64 (a1)) 3) a3_0 a2).bind fun bt111 => (if bt111.2.2.2 = 0 then ((planisphereref02_Same.f bt111.1 bt111.2.1 bt111.2.2.1 a3_0 l3_1 l3_2).bind fun t120 => (planispherelaw02_SealSound.j1 kj5 a0 a2 t102 (Int.tmod (wrap64 (a1)) 3) t120 a3_0 l3_1 l3_2)) else (planispherelaw02_SealSound.j1 kj5 a0 a2 t102 (Int.tmod (wrap64 (a1)) 3) false a3_0 l3_1 l3_2))) else (some t102))) else (some false))) = some r := by rw [if_neg (show ¬ (false = true) by decide)] at H; exact H
        clear H
        have H := H1
        clear H1
        replace H := Option.bind_eq_some_iff.mp H
        obtain ⟨⟨t108, t109⟩, A230, H⟩ := H
        replace H : (if t109 = 0 then ((seal_Verify.f t108 a2 a3_0 l3_1 l3_2).bind fun t110 => (if t110 = true then ((seal_Sign.f a0 (Int.tmod (wrap64 (a1)) 3) a3_0 a2).bind fun bt111 => (if bt111.2.2.2 = 0 then ((planisphereref02_Same.f bt111.1 bt111.2.1 bt111.2.2.1 a3_0 l3_1 l3_2).bind fun t120 => (planispherelaw02_SealSound.j1 kj5 a0 a2 t102 (Int.tmod (wrap64 (a1)) 3) t120 a3_0 l3_1 l3_2)) else (planispherelaw02_SealSound.j1 kj5 a0 a2 t102 (Int.tmod (wrap64 (a1)) 3) false a3_0 l3_1 l3_2))) else (some t102))) else (some false)) = some r := H
        have A23 := Aside0.mk A230
        clear A230
        by_cases c24 : t109 = 0
        · rw [if_pos c24] at H
          have c24b0 : (t109 == 0) = true := beq_iff_eq.mpr c24
          have c24b1 : (t109 != 0) = false := bne_eq_false_iff_eq.mpr c24
          clear c24
          replace H := Option.bind_eq_some_iff.mp H
          obtain ⟨t110, A250, H⟩ := H
          replace H : (if t110 = true then ((seal_Sign.f a0 (Int.tmod (wrap64 (a1)) 3) a3_0 a2).bind fun bt111 => (if bt111.2.2.2 = 0 then ((planisphereref02_Same.f bt111.1 bt111.2.1 bt111.2.2.1 a3_0 l3_1 l3_2).bind fun t120 => (planispherelaw02_SealSound.j1 kj5 a0 a2 t102 (Int.tmod (wrap64 (a1)) 3) t120 a3_0 l3_1 l3_2)) else (planispherelaw02_SealSound.j1 kj5 a0 a2 t102 (Int.tmod (wrap64 (a1)) 3) false a3_0 l3_1 l3_2))) else (some t102)) = some r := H
          have A25 := Aside0.mk A250
          clear A250
          by_cases c26 : t110 = true
          · subst c26
            have H1 : ((seal_Sign.f a0 (Int.tmod (wrap64 (a1)) 3) a3_0 a2).bind fun bt111 => (if bt111.2.2.2 = 0 then ((planisphereref02_Same.f bt111.1 bt111.2.1 bt111.2.2.1 a3_0 l3_1 l3_2).bind fun t120 => (planispherelaw02_SealSound.j1 kj5 a0 a2 t102 (Int.tmod (wrap64 (a1)) 3) t120 a3_0 l3_1 l3_2)) else (planispherelaw02_SealSound.j1 kj5 a0 a2 t102 (Int.tmod (wrap64 (a1)) 3) false a3_0 l3_1 l3_2))) = some r := by rw [if_pos rfl] at H; exact H
            clear H
            have H := H1
            clear H1
            replace H := Option.bind_eq_some_iff.mp H
            obtain ⟨⟨t111, t112, t115, t118⟩, A270, H⟩ := H
            replace H : (if t118 = 0 then ((planisphereref02_Same.f t111 t112 t115 a3_0 l3_1 l3_2).bind fun t120 => (planispherelaw02_SealSound.j1 kj5 a0 a2 t102 (Int.tmod (wrap64 (a1)) 3) t120 a3_0 l3_1 l3_2)) else (planispherelaw02_SealSound.j1 kj5 a0 a2 t102 (Int.tmod (wrap64 (a1)) 3) false a3_0 l3_1 l3_2)) = some r := H
            have A27 := Aside0.mk A270
            clear A270
            have HC28 := Aside0.mk H
            clear H
            go_upto_region 11 with (first | ((with_reducible refine gate_callee (f := 28) rfl ?_); refine goesL_ (some 33) rfl rfl Tryd.func28 (by kernel_rfl) rfl #[.string a0, .int .i64 (Int.tmod (wrap64 (a1)) 3)] rfl (by (try simp only [List.map_toArray, List.map_cons, List.map_nil]); first | done | rfl | (simp only [List.length_drop, List.length_take]; rfl)) ?_; (with_reducible refine (seal_Public.calls a0 (Int.tmod (wrap64 (a1)) 3) t108 t109 _ A23.out (hG := ?hGl)).mono ?_); clear A23; (case hGl => exact (Glob.below HG_.out (by repeat (first | (with_reducible first | exact HB.out | apply below_alloc | apply pw_below_drewN | apply below_drew1) | exact HB.out)))); rintro e w29 ⟨rfl, hb⟩; refine ⟨_, rfl, ?_⟩; have n0_ := Aside0.mk (blk_below (g := gb101) (o := .cells #[.int .i64 a3_0, .slice A3_1 l3_1.length c3_1, .slice A3_2 l3_2.length c3_2] 35 (0, 0)) (by (with_reducible repeat (first | refine blk_drewN ?_ _ | refine blk_drew ?_ | refine blk_alloc ?_ _)); exact BK101.out) hb); have n1_ := Aside0.mk (below_step (by repeat (first | (with_reducible first | exact HB.out | apply below_alloc | apply pw_below_drewN | apply below_drew1 | refine below_set ?_ GE101.out) | exact HB.out)) hb); clear BK101; clear HB; have BK101 := n0_; have HB := n1_; clear n0_ n1_; (try clear hb); (try clear hb2); (try clear hk); (try clear hi); have hcz30_0 : w29.cell? ⟨gb101, 0, none⟩ = some (.int .i64 a3_0) := (blk_cell BK101.out 0).trans rfl; have hcz30_1 : w29.cell? ⟨gb101, 1, none⟩ = some (.slice A3_1 l3_1.length c3_1) := (blk_cell BK101.out 1).trans rfl; have hcz30_2 : w29.cell? ⟨gb101, 2, none⟩ = some (.slice A3_2 l3_2.length c3_2) := (blk_cell BK101.out 2).trans rfl; have hfz30_0 := blk_frozen BK101.out 0; have hfz30_1 := blk_frozen BK101.out 1; have hfz30_2 := blk_frozen BK101.out 2) | ((with_reducible refine gate_callee (f := 33) rfl ?_); refine goesL_ (some 41) rfl rfl Tryd.func33 (by kernel_rfl) rfl #[.string t108, .string a2, .agg #[.int .i64 a3_0, .slice A3_1 l3_1.length c3_1, .slice A3_2 l3_2.length c3_2]] rfl (by (try simp only [List.map_toArray, List.map_cons, List.map_nil]); first | done | rfl | (simp only [List.length_drop, List.length_take]; rfl)) ?_; (with_reducible refine (seal_Verify.calls t108 a2 a3_0 _ _ l3_1 _ _ l3_2 true _ ?side1 ?side2 ?side3 ?side4 A25.out (hG := ?hGl)).mono ?_); clear A25; (case hGl => exact (Glob.below HG_.out (by repeat (first | (with_reducible first | exact HB.out | apply below_alloc | apply pw_below_drewN | apply below_drew1) | exact HB.out)))); (case side1 => repeat (first | exact (Kd.C_below HR3_1.out HB.out) | (with_reducible refine Kd.C_alloc ?_ _) | (with_reducible refine Kd.C_drewN ?_ _) | (with_reducible refine Kd.C_drew ?_))); (case side2 => exact HC3_1.out); (case side3 => repeat (first | exact (Kd.C_below HR3_2.out HB.out) | (with_reducible refine Kd.C_alloc ?_ _) | (with_reducible refine Kd.C_drewN ?_ _) | (with_reducible refine Kd.C_drew ?_))); (case side4 => exact HC3_2.out); rintro e w31 ⟨rfl, hb⟩; refine ⟨_, rfl, ?_⟩; have n0_ := Aside0.mk (blk_below (g := gb101) (o := .cells #[.int .i64 a3_0, .slice A3_1 l3_1.length c3_1, .slice A3_2 l3_2.length c3_2] 35 (0, 0)) (by (with_reducible repeat (first | refine blk_drewN ?_ _ | refine blk_drew ?_ | refine blk_alloc ?_ _)); exact BK101.out) hb); have n1_ := Aside0.mk (below_step (by repeat (first | (with_reducible first | exact HB.out | apply below_alloc | apply pw_below_drewN | apply below_drew1 | refine below_set ?_ GE101.out) | exact HB.out)) hb); clear BK101; clear HB; have BK101 := n0_; have HB := n1_; clear n0_ n1_; (try clear hb); (try clear hb2); (try clear hk); (try clear hi); have hcz32_0 : w31.cell? ⟨gb101, 0, none⟩ = some (.int .i64 a3_0) := (blk_cell BK101.out 0).trans rfl; have hcz32_1 : w31.cell? ⟨gb101, 1, none⟩ = some (.slice A3_1 l3_1.length c3_1) := (blk_cell BK101.out 1).trans rfl; have hcz32_2 : w31.cell? ⟨gb101, 2, none⟩ = some (.slice A3_2 l3_2.length c3_2) := (blk_cell BK101.out 2).trans rfl; have hfz32_0 := blk_frozen BK101.out 0; have hfz32_1 := blk_frozen BK101.out 1; have hfz32_2 := blk_frozen BK101.out 2) | ((with_reducible refine gate_callee (f := 30) rfl ?_); refine goesL_ (some 50) rfl rfl Tryd.func30 (by kernel_rfl) rfl #[.string a0, .int .i64 (Int.tmod (wrap64 (a1)) 3), .int .i64 a3_0, .string a2] rfl (by (try simp only [List.map_toArray, List.map_cons, List.map_nil]); first | done | rfl | (simp only [List.length_drop, List.length_take]; rfl)) ?_; (with_reducible refine (seal_Sign.calls a0 (Int.tmod (wrap64 (a1)) 3) a3_0 a2 t111 t112 t115 t118 _ A27.out (hG := ?hGl)).mono ?_); clear A27; (case hGl => exact (Glob.below HG_.out (by repeat (first | (with_reducible first | exact HB.out | apply below_alloc | apply pw_below_drewN | apply below_drew1) | exact HB.out)))); rintro e w33 ⟨v113, v116, rfl, ho0, ho1, hb⟩; refine ⟨_, rfl, ?_⟩; have n0_ := Aside0.mk (Kd.R_lower ho0 (below_size (by repeat (first | (with_reducible first | exact HB.out | apply below_alloc | apply pw_below_drewN | apply below_drew1 | refine below_set ?_ GE101.out) | exact HB.out)))); have n1_ := Aside0.mk (Kd.R_lower ho1 (below_size (by repeat (first | (with_reducible first | exact HB.out | apply below_alloc | apply pw_below_drewN | apply below_drew1 | refine below_set ?_ GE101.out) | exact HB.out)))); have n2_ := Aside0.mk (blk_below (g := gb101) (o := .cells #[.int .i64 a3_0, .slice A3_1 l3_1.length c3_1, .slice A3_2 l3_2.length c3_2] 35 (0, 0)) (by (with_reducible repeat (first | refine blk_drewN ?_ _ | refine blk_drew ?_ | refine blk_alloc ?_ _)); exact BK101.out) hb); have n3_ := Aside0.mk (below_step (by repeat (first | (with_reducible first | exact HB.out | apply below_alloc | apply pw_below_drewN | apply below_drew1 | refine below_set ?_ GE101.out) | exact HB.out)) hb); clear BK101; clear HB; have HO114 := n0_; have HO117 := n1_; have BK101 := n2_; have HB := n3_; clear n0_ n1_ n2_ n3_; (try clear hb); (try clear hb2); (try clear hk); (try clear hi); (try clear ho0); (try clear ho1)) | ((with_reducible refine gate_dst (N := 13) rfl ?_); (try (refine gate_guard (by rfl) ?_; dsimp only)); refine box_event ?hg (N := 13) ?hd (cs := #[.int .i64 0, .slice none 0 0, .slice none 0 0]) (t := 35) ?hr ?_; (case hd => rfl); (case hg => rfl); (case hr => first | (go_simp; done) | (go_simp; rfl)); intro gb119 hg w34 hbox hb; have n0_ := Aside0.mk (Kd.R_below (by (with_reducible repeat (first | apply Kd.R_alloc | apply Kd.R_drewN | apply Kd.R_drew)); exact HO114.out) hb); have n1_ := Aside0.mk (Kd.R_below (by (with_reducible repeat (first | apply Kd.R_alloc | apply Kd.R_drewN | apply Kd.R_drew)); exact HO117.out) hb); have n2_ := Aside0.mk (blk_below (g := gb101) (o := .cells #[.int .i64 a3_0, .slice A3_1 l3_1.length c3_1, .slice A3_2 l3_2.length c3_2] 35 (0, 0)) (by (with_reducible repeat (first | refine blk_drewN ?_ _ | refine blk_drew ?_ | refine blk_alloc ?_ _)); exact BK101.out) hb); have n3_ := Aside0.mk (below_step (by repeat (first | (with_reducible first | exact HB.out | apply below_alloc | apply pw_below_drewN | apply below_drew1 | refine below_set ?_ GE101.out) | exact HB.out)) hb); have n4_ := Aside0.mk (hbox); have n5_ := Aside0.mk ((by rw [hg]; exact (below_size (by repeat (first | (with_reducible first | exact HB.out | apply below_alloc | apply pw_below_drewN | apply below_drew1 | refine below_set ?_ GE101.out) | exact HB.out))) : w.heap.size ≤ gb119)); have n6_ := Aside0.mk ((by rw [hg]; exact (below_size (by repeat (first | (with_reducible first | exact HB.out | apply below_alloc | apply pw_below_drewN | apply below_drew1 | refine below_set ?_ GE101.out) | exact HB.out))) : w.heap.size ≤ gb119)); have n7_ := Aside0.mk ((by rw [hg]; exact Nat.ne_of_lt (blk_lt (g := gb101) (o := .cells #[.int .i64 a3_0, .slice A3_1 l3_1.length c3_1, .slice A3_2 l3_2.length c3_2] 35 (0, 0)) (by (with_reducible repeat (first | refine blk_drewN ?_ _ | refine blk_drew ?_ | refine blk_alloc ?_ _)); exact BK101.out)) : gb101 ≠ gb119)); have n8_ := Aside0.mk ((by rw [hg]; exact Nat.ne_of_gt (blk_lt (g := gb101) (o := .cells #[.int .i64 a3_0, .slice A3_1 l3_1.length c3_1, .slice A3_2 l3_2.length c3_2] 35 (0, 0)) (by (with_reducible repeat (first | refine blk_drewN ?_ _ | refine blk_drew ?_ | refine blk_alloc ?_ _)); exact BK101.out)) : gb119 ≠ gb101)); clear HO114; clear HO117; clear BK101; clear HB; have HO114 := n0_; have HO117 := n1_; have BK101 := n2_; have HB := n3_; have BK119 := n4_; have GW119 := n5_; have GE119 := n6_; have NB101_119 := n7_; have NB119_101 := n8_; clear n0_ n1_ n2_ n3_ n4_ n5_ n6_ n7_ n8_; clear hb hbox hg; have hnb35 := NB119_101.out; have hnc35 := NB101_119.out; have hcz36_0 : w34.cell? ⟨gb119, 0, none⟩ = some (.int .i64 0) := (blk_cell BK119.out 0).trans rfl; have hcz36_1 : w34.cell? ⟨gb119, 1, none⟩ = some (.slice none 0 0) := (blk_cell BK119.out 1).trans rfl; have hcz36_2 : w34.cell? ⟨gb119, 2, none⟩ = some (.slice none 0 0) := (blk_cell BK119.out 2).trans rfl; have hfz36_0 := blk_frozen BK119.out 0; have hfz36_1 := blk_frozen BK119.out 1; have hfz36_2 := blk_frozen BK119.out 2; obtain ⟨Ao37, co37, eo37⟩ := Kd.R_slice HO114.out; subst eo37; obtain ⟨Ao38, co38, eo38⟩ := Kd.R_slice HO117.out; subst eo38))
            (try simp only [Act.put, List.setIfInBounds_toArray, List.set_cons_zero, List.set_cons_succ])
            go_cut [59] (fun v59 wc => ∃ (kq : Nat) (x59_27 : Bool), v59 = .bool x59_27 ∧ Aside0 (planispherelaw02_SealSound.j1 kq a0 a2 t102 (Int.tmod (wrap64 (a1)) 3) x59_27 a3_0 l3_1 l3_2 = some r) ∧ Aside0 (kq ≤ kj5) ∧ Aside0 (Kd.R Kd.string 9 wc w.heap.size (fun k_ => some k_ ≠ ((.slice Ao38 t115.length co38) : Value).ownBlock) (.slice Ao37 t112.length co37) t112) ∧ Aside0 (Kd.R Kd.string 9 wc w.heap.size (fun k_ => some k_ ≠ ((.slice Ao37 t112.length co37) : Value).ownBlock) (.slice Ao38 t115.length co38) t115) ∧ Aside0 (wc.heap[gb101]? = some (.cells #[.int .i64 a3_0, (.slice A3_1 l3_1.length c3_1), (.slice A3_2 l3_2.length c3_2)] 35 (0, 0))) ∧ Aside0 (wc.heap[gb119]? = some (.cells #[.int .i64 t111, (.slice Ao37 t112.length co37), (.slice Ao38 t115.length co38)] 35 (0, 0))) ∧ Aside0 (Below w.heap.size w wc))
            case first =>
              have H := HC28.out
              clear HC28
              by_cases c39 : t118 = 0
              · rw [if_pos c39] at H
                have c39b0 : (t118 == 0) = true := beq_iff_eq.mpr c39
                have c39b1 : (t118 != 0) = false := bne_eq_false_iff_eq.mpr c39
                clear c39
                (first | rw [c39b0] | (simp only [i64_w, i32_w]; rw [c39b0]) | skip)
                replace H := Option.bind_eq_some_iff.mp H
                obtain ⟨t120, A400, H⟩ := H
                replace H : (planispherelaw02_SealSound.j1 kj5 a0 a2 t102 (Int.tmod (wrap64 (a1)) 3) t120 a3_0 l3_1 l3_2) = some r := H
                have A40 := Aside0.mk A400
                clear A400
                have H' := Aside0.mk H
                clear H
                have hnb41 := NB119_101.out
                have hnc41 := NB101_119.out
                have hcz42_0 : w34.cell? ⟨gb119, 0, none⟩ = some (.int .i64 0) := (blk_cell BK119.out 0).trans rfl
                have hcz42_1 : w34.cell? ⟨gb119, 1, none⟩ = some (.slice none 0 0) := (blk_cell BK119.out 1).trans rfl
                have hcz42_2 : w34.cell? ⟨gb119, 2, none⟩ = some (.slice none 0 0) := (blk_cell BK119.out 2).trans rfl
                have hfz42_0 := blk_frozen BK119.out 0
                have hfz42_1 := blk_frozen BK119.out 1
                have hfz42_2 := blk_frozen BK119.out 2
                have hcz43_0 : w34.cell? ⟨gb101, 0, none⟩ = some (.int .i64 a3_0) := (blk_cell BK101.out 0).trans rfl
                have hcz43_1 : w34.cell? ⟨gb101, 1, none⟩ = some (.slice A3_1 l3_1.length c3_1) := (blk_cell BK101.out 1).trans rfl
                have hcz43_2 : w34.cell? ⟨gb101, 2, none⟩ = some (.slice A3_2 l3_2.length c3_2) := (blk_cell BK101.out 2).trans rfl
                have hfz43_0 := blk_frozen BK101.out 0
                have hfz43_1 := blk_frozen BK101.out 1
                have hfz43_2 := blk_frozen BK101.out 2
                go_wp2_with (first | (go_at_call 32; (with_reducible refine (planisphereref02_Same.calls t111 _ _ t112 _ _ t115 a3_0 _ _ l3_1 _ _ l3_2 t120 _ ?side1 ?side2 ?side3 ?side4 ?side5 ?side6 ?side7 ?side8 A40.out).mono ?_); clear A40; (case side1 => refine (Kd.R_reads' (e := 9) (base := w.heap.size) (ok := fun k_ => some k_ ≠ (.slice Ao38 t115.length co38 : Value).ownBlock) (n := t112.length) (c := co37) ?_).2.2; exact (by (with_reducible repeat (first | apply Kd.R_alloc | apply Kd.R_drewN | apply Kd.R_drew)); exact (Kd.R_mono (Kd.R_far (p := ⟨gb119, 2, none⟩) (Kd.R_far (p := ⟨gb119, 1, none⟩) (Kd.R_far (p := ⟨gb119, 0, none⟩) (Kd.R_types HO114.out BK119.out (by decide)) (fun _ hk => hk.2) (.int .i64 t111)) (fun _ hk => hk.2) (.slice Ao37 t112.length co37)) (fun _ hk => hk.2) (.slice Ao38 t115.length co38)) (fun _ h_ => h_.1)))); (case side2 => exact (Kd.R_reads' HO114.out).2.1); (case side3 => refine (Kd.R_reads' (e := 9) (base := w.heap.size) (ok := fun k_ => some k_ ≠ (.slice Ao37 t112.length co37 : Value).ownBlock) (n := t115.length) (c := co38) ?_).2.2; exact (by (with_reducible repeat (first | apply Kd.R_alloc | apply Kd.R_drewN | apply Kd.R_drew)); exact (Kd.R_mono (Kd.R_far (p := ⟨gb119, 2, none⟩) (Kd.R_far (p := ⟨gb119, 1, none⟩) (Kd.R_far (p := ⟨gb119, 0, none⟩) (Kd.R_types HO117.out BK119.out (by decide)) (fun _ hk => hk.2) (.int .i64 t111)) (fun _ hk => hk.2) (.slice Ao37 t112.length co37)) (fun _ hk => hk.2) (.slice Ao38 t115.length co38)) (fun _ h_ => h_.1)))); (case side4 => exact (Kd.R_reads' HO117.out).2.1); (case side5 => exact Kd.C_below HR3_1.out (by repeat (first | (with_reducible first | exact HB.out | apply below_alloc | apply pw_below_drewN | apply below_drew1 | refine below_set ?_ GE101.out | refine below_set ?_ GE119.out) | exact HB.out))); (case side6 => exact HC3_1.out); (case side7 => exact Kd.C_below HR3_2.out (by repeat (first | (with_reducible first | exact HB.out | apply below_alloc | apply pw_below_drewN | apply below_drew1 | refine below_set ?_ GE101.out | refine below_set ?_ GE119.out) | exact HB.out))); (case side8 => exact HC3_2.out); rintro e w44 ⟨rfl, hb⟩; have n0_ := Aside0.mk (Kd.R_below (by (with_reducible repeat (first | apply Kd.R_alloc | apply Kd.R_drewN | apply Kd.R_drew)); exact (Kd.R_mono (Kd.R_far (p := ⟨gb119, 2, none⟩) (Kd.R_far (p := ⟨gb119, 1, none⟩) (Kd.R_far (p := ⟨gb119, 0, none⟩) (Kd.R_types HO114.out BK119.out (by decide)) (fun _ hk => hk.2) (.int .i64 t111)) (fun _ hk => hk.2) (.slice Ao37 t112.length co37)) (fun _ hk => hk.2) (.slice Ao38 t115.length co38)) (fun _ h_ => h_.1))) hb); have n1_ := Aside0.mk (Kd.R_below (by (with_reducible repeat (first | apply Kd.R_alloc | apply Kd.R_drewN | apply Kd.R_drew)); exact (Kd.R_mono (Kd.R_far (p := ⟨gb119, 2, none⟩) (Kd.R_far (p := ⟨gb119, 1, none⟩) (Kd.R_far (p := ⟨gb119, 0, none⟩) (Kd.R_types HO117.out BK119.out (by decide)) (fun _ hk => hk.2) (.int .i64 t111)) (fun _ hk => hk.2) (.slice Ao37 t112.length co37)) (fun _ hk => hk.2) (.slice Ao38 t115.length co38)) (fun _ h_ => h_.1))) hb); have n2_ := Aside0.mk (blk_below (g := gb101) (o := .cells #[.int .i64 a3_0, .slice A3_1 l3_1.length c3_1, .slice A3_2 l3_2.length c3_2] 35 (0, 0)) (by (with_reducible repeat (first | refine blk_drewN ?_ _ | refine blk_drew ?_ | refine blk_alloc ?_ _)); refine blk_far ?_ NB101_119.out _; (with_reducible repeat (first | refine blk_drewN ?_ _ | refine blk_drew ?_ | refine blk_alloc ?_ _)); refine blk_far ?_ NB101_119.out _; (with_reducible repeat (first | refine blk_drewN ?_ _ | refine blk_drew ?_ | refine blk_alloc ?_ _)); refine blk_far ?_ NB101_119.out _; (with_reducible repeat (first | refine blk_drewN ?_ _ | refine blk_drew ?_ | refine blk_alloc ?_ _)); exact BK101.out) hb); have n3_ := Aside0.mk (blk_below (g := gb119) (o := .cells #[.int .i64 t111, .slice Ao37 t112.length co37, .slice Ao38 t115.length co38] 35 (0, 0)) (by (with_reducible repeat (first | refine blk_drewN ?_ _ | refine blk_drew ?_ | refine blk_alloc ?_ _)); refine blk_put (cs := #[.int .i64 t111, .slice Ao37 t112.length co37, .slice none 0 0]) ?_ 2 _ rfl; (with_reducible repeat (first | refine blk_drewN ?_ _ | refine blk_drew ?_ | refine blk_alloc ?_ _)); refine blk_put (cs := #[.int .i64 t111, .slice none 0 0, .slice none 0 0]) ?_ 1 _ rfl; (with_reducible repeat (first | refine blk_drewN ?_ _ | refine blk_drew ?_ | refine blk_alloc ?_ _)); refine blk_put (cs := #[.int .i64 0, .slice none 0 0, .slice none 0 0]) ?_ 0 _ rfl; (with_reducible repeat (first | refine blk_drewN ?_ _ | refine blk_drew ?_ | refine blk_alloc ?_ _)); exact BK119.out) hb); have n4_ := Aside0.mk (below_step (by repeat (first | (with_reducible first | exact HB.out | apply below_alloc | apply pw_below_drewN | apply below_drew1 | refine below_set ?_ GE101.out | refine below_set ?_ GE119.out) | exact HB.out)) hb); clear HO114; clear HO117; clear BK101; clear BK119; clear HB; have HO114 := n0_; have HO117 := n1_; have BK101 := n2_; have BK119 := n3_; have HB := n4_; clear n0_ n1_ n2_ n3_ n4_; (try clear hb); (try clear hb2); (try clear hk); (try clear hi)))
                go_meet
                case rel => exact ⟨_, (t120), (by first | rfl | (simp; done) | (simp [*]; done)), H', ⟨by have := HJ5.out; first | omega | exact Nat.le_refl _⟩, ⟨by (with_reducible repeat (first | apply Kd.R_alloc | apply Kd.R_drewN | apply Kd.R_drew)); exact HO114.out⟩, ⟨by (with_reducible repeat (first | apply Kd.R_alloc | apply Kd.R_drewN | apply Kd.R_drew)); exact HO117.out⟩, ⟨by (with_reducible repeat (first | refine blk_drewN ?_ _ | refine blk_drew ?_ | refine blk_alloc ?_ _)); exact BK101.out⟩, ⟨by (with_reducible repeat (first | refine blk_drewN ?_ _ | refine blk_drew ?_ | refine blk_alloc ?_ _)); exact BK119.out⟩, ⟨by repeat (first | (with_reducible first | exact HB.out | apply below_alloc | apply pw_below_drewN | apply below_drew1 | refine below_set ?_ GE101.out | refine below_set ?_ GE119.out) | exact HB.out)⟩⟩
              · rw [if_neg c39] at H
                have c39b0 : (t118 == 0) = false := beq_eq_false_iff_ne.mpr c39
                have c39b1 : (t118 != 0) = true := bne_iff_ne.mpr c39
                (first | rw [c39b0] | (simp only [i64_w, i32_w]; rw [c39b0]) | skip)
                have H' := Aside0.mk H
                clear H
                go_wp2
                go_meet
                case rel => exact ⟨_, (false), (by first | rfl | (simp; done) | (simp [*]; done)), H', ⟨by have := HJ5.out; first | omega | exact Nat.le_refl _⟩, ⟨by (with_reducible repeat (first | apply Kd.R_alloc | apply Kd.R_drewN | apply Kd.R_drew)); exact Kd.R_mono (Kd.R_far (p := ⟨gb119, 2, none⟩) (Kd.R_far (p := ⟨gb119, 1, none⟩) (Kd.R_far (p := ⟨gb119, 0, none⟩) (Kd.R_types HO114.out BK119.out (by decide)) (fun _ hk => hk.2) (.int .i64 t111)) (fun _ hk => hk.2) (.slice Ao37 t112.length co37)) (fun _ hk => hk.2) (.slice Ao38 t115.length co38)) (fun _ hk => hk.1)⟩, ⟨by (with_reducible repeat (first | apply Kd.R_alloc | apply Kd.R_drewN | apply Kd.R_drew)); exact Kd.R_mono (Kd.R_far (p := ⟨gb119, 2, none⟩) (Kd.R_far (p := ⟨gb119, 1, none⟩) (Kd.R_far (p := ⟨gb119, 0, none⟩) (Kd.R_types HO117.out BK119.out (by decide)) (fun _ hk => hk.2) (.int .i64 t111)) (fun _ hk => hk.2) (.slice Ao37 t112.length co37)) (fun _ hk => hk.2) (.slice Ao38 t115.length co38)) (fun _ hk => hk.1)⟩, ⟨by (with_reducible repeat (first | refine blk_drewN ?_ _ | refine blk_drew ?_ | refine blk_alloc ?_ _)); refine blk_far ?_ NB101_119.out _; (with_reducible repeat (first | refine blk_drewN ?_ _ | refine blk_drew ?_ | refine blk_alloc ?_ _)); refine blk_far ?_ NB101_119.out _; (with_reducible repeat (first | refine blk_drewN ?_ _ | refine blk_drew ?_ | refine blk_alloc ?_ _)); refine blk_far ?_ NB101_119.out _; (with_reducible repeat (first | refine blk_drewN ?_ _ | refine blk_drew ?_ | refine blk_alloc ?_ _)); exact BK101.out⟩, ⟨by (with_reducible repeat (first | refine blk_drewN ?_ _ | refine blk_drew ?_ | refine blk_alloc ?_ _)); refine blk_put (cs := #[.int .i64 t111, .slice Ao37 t112.length co37, .slice none 0 0]) ?_ 2 _ rfl; (with_reducible repeat (first | refine blk_drewN ?_ _ | refine blk_drew ?_ | refine blk_alloc ?_ _)); refine blk_put (cs := #[.int .i64 t111, .slice none 0 0, .slice none 0 0]) ?_ 1 _ rfl; (with_reducible repeat (first | refine blk_drewN ?_ _ | refine blk_drew ?_ | refine blk_alloc ?_ _)); refine blk_put (cs := #[.int .i64 0, .slice none 0 0, .slice none 0 0]) ?_ 0 _ rfl; (with_reducible repeat (first | refine blk_drewN ?_ _ | refine blk_drew ?_ | refine blk_alloc ?_ _)); exact BK119.out⟩, ⟨by repeat (first | (with_reducible first | exact HB.out | apply below_alloc | apply pw_below_drewN | apply below_drew1 | refine below_set ?_ GE101.out | refine below_set ?_ GE119.out) | exact HB.out)⟩⟩
            case rest =>
              clear HC28
              try clear c1
              try clear c2
              try clear p2
              try clear c3
              try clear c4
              try clear p6
              try clear c10
              try clear c22
              try clear c24
              try clear c24b0
              try clear c24b1
              try clear c25
              try clear c26
              try clear c28
              try clear c30
              try clear c33
              try clear c35
              try clear c39
              try clear c39b0
              try clear c39b1
              try clear c41
              try clear hcz16_0
              try clear hcz16_1
              try clear hcz16_2
              try clear hcz30_0
              try clear hcz30_1
              try clear hcz30_2
              try clear hcz32_0
              try clear hcz32_1
              try clear hcz32_2
              try clear hcz36_0
              try clear hcz36_1
              try clear hcz36_2
              try clear hcz42_0
              try clear hcz42_1
              try clear hcz42_2
              try clear hcz43_0
              try clear hcz43_1
              try clear hcz43_2
              try clear hfz16_0
              try clear hfz16_1
              try clear hfz16_2
              try clear hfz30_0
              try clear hfz30_1
              try clear hfz30_2
              try clear hfz32_0
              try clear hfz32_1
              try clear hfz32_2
              try clear hfz36_0
              try clear hfz36_1
              try clear hfz36_2
              try clear hfz42_0
              try clear hfz42_1
              try clear hfz42_2
              try clear hfz43_0
              try clear hfz43_1
              try clear hfz43_2
              try clear p2
              try clear p6
              obtain ⟨kq, x59_27, rfl, HA, HJ27, HO_120001, HO_120002, BK101, BK119, HB⟩ := hcut
              cases kq with
              | zero => exact absurd HA.out (by simp [planispherelaw02_SealSound.j1])
              | succ kj27 =>
                have H := HA.out
                clear HA
                simp only [planispherelaw02_SealSound.j1] at H
                by_cases c45 : x59_27 = true
                · subst c45
                  have H1 : (some t102) = some r := by rw [if_pos rfl] at H; exact H
                  clear H
                  have H := H1
                  clear H1
                  obtain rfl := Option.some.inj H
                  go_wp2
                  go_ret
                  exact ⟨by first | rfl | (simp [errW_none, errW_some] <;> rfl) | (simp [*, errW_none, errW_some] <;> rfl), by repeat (first | (with_reducible first | exact HB.out | apply below_alloc | apply pw_below_drewN | apply below_drew1 | refine below_set ?_ GE101.out | refine below_set ?_ GE119.out) | exact HB.out)⟩
                · replace c45 := Bool.eq_false_iff.mpr c45
                  subst c45
                  have H1 : (if t102 = true then ((planisphereref02_Made.f a0 (Int.tmod (wrap64 (a1)) 3) 15).bind fun t121 => ((planisphereref02_Checked.f a2 a3_0 l3_1 l3_2).bind fun t124 => (if t121.length + t124.length < 8796093022208 then ((planisphereref02_Shown.f (t121 ++ t124)).bind fun t130 => (some t130)) else (none)))) else (some false)) = some r := by rw [if_neg (show ¬ (false = true) by decide)] at H; exact H
                  clear H
                  have H := H1
                  clear H1
                  by_cases c46 : t102 = true
                  · subst c46
                    have H1 : ((planisphereref02_Made.f a0 (Int.tmod (wrap64 (a1)) 3) 15).bind fun t121 => ((planisphereref02_Checked.f a2 a3_0 l3_1 l3_2).bind fun t124 => (if t121.length + t124.length < 8796093022208 then ((planisphereref02_Shown.f (t121 ++ t124)).bind fun t130 => (some t130)) else (none)))) = some r := by rw [if_pos rfl] at H; exact H
                    clear H
                    have H := H1
                    clear H1
                    replace H := Option.bind_eq_some_iff.mp H
                    obtain ⟨t121, A470, H⟩ := H
                    replace H : ((planisphereref02_Checked.f a2 a3_0 l3_1 l3_2).bind fun t124 => (if t121.length + t124.length < 8796093022208 then ((planisphereref02_Shown.f (t121 ++ t124)).bind fun t130 => (some t130)) else (none))) = some r := H
                    have A47 := Aside0.mk A470
                    clear A470
                    replace H := Option.bind_eq_some_iff.mp H
                    obtain ⟨t124, A480, H⟩ := H
                    replace H : (if t121.length + t124.length < 8796093022208 then ((planisphereref02_Shown.f (t121 ++ t124)).bind fun t130 => (some t130)) else (none)) = some r := H
                    have A48 := Aside0.mk A480
                    clear A480
                    by_cases c49 : t121.length + t124.length < 8796093022208
                    · rw [if_pos c49] at H
                      have LMc49 := Aside0.mk c49
                      clear c49
                      obtain ⟨y127, hy127⟩ : ∃ y_ : List ByteArray, y_ = (t121 ++ t124) := ⟨_, rfl⟩
                      replace H : ((planisphereref02_Shown.f y127).bind fun t130 => (some t130)) = some r := by first | (rw [hy127]; with_reducible exact H) | (have H2_ := (Option.bind_some _ _).symm.trans H; rw [hy127]; with_reducible exact H2_) | (have H2_ := (Option.bind_some _ _).symm.trans H; with_reducible exact H2_) | with_reducible exact H | (rw [hy127]; exact H) | exact H
                      have Ny127 := Aside0.mk hy127
                      clear hy127
                      replace H := Option.bind_eq_some_iff.mp H
                      obtain ⟨t130, A500, H⟩ := H
                      replace H : (some t130) = some r := H
                      have A50 := Aside0.mk A500
                      clear A500
                      obtain rfl := Option.some.inj H
                      try go_wp2
                      have n0_ := Aside0.mk (Kd.R_drew HO_120001.out)
                      have n1_ := Aside0.mk (Kd.R_drew HO_120002.out)
                      have n2_ := Aside0.mk (blk_drew BK101.out)
                      have n3_ := Aside0.mk (blk_drew BK119.out)
                      have n4_ := Aside0.mk (below_drew1 HB.out)
                      clear HO_120001
                      clear HO_120002
                      clear BK101
                      clear BK119
                      clear HB
                      have HO_120001 := n0_
                      have HO_120002 := n1_
                      have BK101 := n2_
                      have BK119 := n3_
                      have HB := n4_
                      clear n0_ n1_ n2_ n3_ n4_
                      refine start_ (n := 12) (S := fun w' => w'.cell? ⟨gb101, 0, none⟩ = some (.int .i64 a3_0) ∧ w'.cell? ⟨gb101, 1, none⟩ = some (.slice A3_1 l3_1.length c3_1) ∧ w'.cell? ⟨gb101, 2, none⟩ = some (.slice A3_2 l3_2.length c3_2)) (ds := []) #[false, false, false, false, false, false, false, false, false, false, false, false] (by kernel_rfl) rfl rfl ⟨(blk_cell BK101.out 0).trans rfl, (blk_cell BK101.out 1).trans rfl, (blk_cell BK101.out 2).trans rfl⟩ (fun hHeld => ?_); refine with_tabW planispherelaw02_SealSound.tab13 planispherelaw02_SealSound.bits13 (fun HT_ HW_ => ?_)
                      generalize wc.drew = w51 at HO_120001 HO_120002 BK101 BK119 HB hHeld ⊢
                      refine pure_ (i := 0) (N := some 61) (v := ?_) (a' := ?_) #[true, false, false, false, false, false, false, false, false, false, false, false] rfl rfl (any_of HT_.out (by kernel_rfl)) (fun _ _ _ h => h) (Or.inl ⟨by rfl, ?_⟩) ?_ ?_
                      rotate_left
                      · intro w'
                        first | (go_simp; with_reducible rfl) | (go_simp; rw [if_neg (by (have hone_ : ∀ b : UInt8, (ByteArray.mk #[b]).size = 1 := fun _ => rfl); (simp only [decide_eq_true_eq, ByteArray.size_extract, ByteArray.size_append, hone_] at *); omega)]; try with_reducible rfl)
                      rotate_left
                      · simp only [Act.put, List.setIfInBounds_toArray, List.set_cons_zero, List.set_cons_succ, i64_w, i32_w]
                        rfl
                      refine pure_ (i := 1) (N := some 62) (v := ?_) (a' := ?_) #[true, true, false, false, false, false, false, false, false, false, false, false] rfl rfl (any_of HT_.out (by kernel_rfl)) (fun _ _ _ h => h) (Or.inl ⟨by rfl, ?_⟩) ?_ ?_
                      rotate_left
                      · intro w'
                        first | (go_simp; with_reducible rfl) | (go_simp; rw [if_neg (by (have hone_ : ∀ b : UInt8, (ByteArray.mk #[b]).size = 1 := fun _ => rfl); (simp only [decide_eq_true_eq, ByteArray.size_extract, ByteArray.size_append, hone_] at *); omega)]; try with_reducible rfl)
                      rotate_left
                      · simp only [Act.put, List.setIfInBounds_toArray, List.set_cons_zero, List.set_cons_succ, i64_w, i32_w]
                        rfl
                      refine pure_ (i := 2) (N := some 63) (v := ?_) (a' := ?_) #[true, true, true, false, false, false, false, false, false, false, false, false] rfl rfl (any_of HT_.out (by kernel_rfl)) (fun _ _ _ h => h) (Or.inl ⟨by rfl, ?_⟩) ?_ ?_
                      rotate_left
                      · intro w'
                        first | (go_simp; with_reducible rfl) | (go_simp; rw [if_neg (by (have hone_ : ∀ b : UInt8, (ByteArray.mk #[b]).size = 1 := fun _ => rfl); (simp only [decide_eq_true_eq, ByteArray.size_extract, ByteArray.size_append, hone_] at *); omega)]; try with_reducible rfl)
                      rotate_left
                      · simp only [Act.put, List.setIfInBounds_toArray, List.set_cons_zero, List.set_cons_succ, i64_w, i32_w]
                        rfl
                      refine pure_ (i := 3) (N := some 64) (v := ?_) (a' := ?_) #[true, true, true, true, false, false, false, false, false, false, false, false] rfl rfl (any_of HT_.out (by kernel_rfl)) (fun _ _ _ h => h) (Or.inl ⟨by rfl, ?_⟩) ?_ ?_
                      rotate_left
                      · intro w'
                        first | (go_simp; with_reducible rfl) | (go_simp; rw [if_neg (by (have hone_ : ∀ b : UInt8, (ByteArray.mk #[b]).size = 1 := fun _ => rfl); (simp only [decide_eq_true_eq, ByteArray.size_extract, ByteArray.size_append, hone_] at *); omega)]; try with_reducible rfl)
                      rotate_left
                      · simp only [Act.put, List.setIfInBounds_toArray, List.set_cons_zero, List.set_cons_succ, i64_w, i32_w]
                        rfl
                      refine pure_ (i := 5) (N := some 66) (v := ?_) (a' := ?_) #[true, true, true, true, false, true, false, false, false, false, false, false] rfl rfl (any_of HT_.out (by kernel_rfl)) (fun _ _ _ h => h) (Or.inl ⟨by rfl, ?_⟩) ?_ ?_
                      rotate_left
                      · intro w'
                        first | (go_simp; with_reducible rfl) | (go_simp; rw [if_neg (by (have hone_ : ∀ b : UInt8, (ByteArray.mk #[b]).size = 1 := fun _ => rfl); (simp only [decide_eq_true_eq, ByteArray.size_extract, ByteArray.size_append, hone_] at *); omega)]; try with_reducible rfl)
                      rotate_left
                      · simp only [Act.put, List.setIfInBounds_toArray, List.set_cons_zero, List.set_cons_succ, i64_w, i32_w]
                        rfl
                      refine take_ (i := 6) (N := some 67) (v := ?_) (a' := ?_) #[true, true, true, true, false, true, true, false, false, false, false, false] rfl rfl (take_ofW HT_.out HW_.out (by kernel_rfl)) (fun _ _ _ h => h) (Or.inl ⟨by rfl, ?_⟩) hHeld ?_ ?_
                      rotate_left
                      · rintro w' ⟨s0, s1, s2⟩
                        go_simp
                        with_reducible rfl
                      rotate_left
                      · simp only [Act.put, List.setIfInBounds_toArray, List.set_cons_zero, List.set_cons_succ, i64_w, i32_w]
                        rfl
                      refine one_ (i := 4) (N := some 65) #[true, true, true, true, true, true, true, false, false, false, false, false] rfl rfl (one_of HT_.out (by kernel_rfl)) (by decide) (fun K hK => ?_)
                      refine goes_ Tryd.func36 (by kernel_rfl) rfl #[.string a0, .int .i64 (Int.tmod (wrap64 (a1)) 3), .int .i64 15] (by rfl) rfl rfl (by (try simp only [List.map_toArray, List.map_cons, List.map_nil]); first | done | rfl | (simp only [List.length_drop, List.length_take]; rfl)) ?_
                      with_reducible refine (planisphereref02_Made.calls a0 (Int.tmod (wrap64 (a1)) 3) 15 t121 _ A47.out).mono ?_
                      rintro e w52 ⟨v122, rfl, ho0, hb⟩
                      refine ⟨_, rfl, ?_⟩
                      have n0_ := Aside0.mk (Kd.R_elder' (by (with_reducible repeat (first | apply Kd.R_alloc | apply Kd.R_drewN | apply Kd.R_drew)); exact HO_120001.out) (Kd.R_base ho0) hb)
                      have n1_ := Aside0.mk (Kd.R_elder' (by (with_reducible repeat (first | apply Kd.R_alloc | apply Kd.R_drewN | apply Kd.R_drew)); exact HO_120002.out) (Kd.R_base ho0) hb)
                      have n2_ := Aside0.mk (Kd.R_lower (Kd.R_new' (Kd.R_new' ho0 (Kd.R_lt (by (with_reducible repeat (first | apply Kd.R_alloc | apply Kd.R_drewN | apply Kd.R_drew)); exact HO_120001.out))) (Kd.R_lt (by (with_reducible repeat (first | apply Kd.R_alloc | apply Kd.R_drewN | apply Kd.R_drew)); exact HO_120002.out))) (below_size (by repeat (first | (with_reducible first | exact HB.out | apply below_alloc | apply pw_below_drewN | apply below_drew1 | refine below_set ?_ GE101.out | refine below_set ?_ GE119.out) | exact HB.out))))
                      have n3_ := Aside0.mk (blk_below (g := gb101) (o := .cells #[.int .i64 a3_0, .slice A3_1 l3_1.length c3_1, .slice A3_2 l3_2.length c3_2] 35 (0, 0)) (by (with_reducible repeat (first | refine blk_drewN ?_ _ | refine blk_drew ?_ | refine blk_alloc ?_ _)); exact BK101.out) hb)
                      have n4_ := Aside0.mk (blk_below (g := gb119) (o := .cells #[.int .i64 t111, .slice Ao37 t112.length co37, .slice Ao38 t115.length co38] 35 (0, 0)) (by (with_reducible repeat (first | refine blk_drewN ?_ _ | refine blk_drew ?_ | refine blk_alloc ?_ _)); exact BK119.out) hb)
                      have n5_ := Aside0.mk (below_step (by repeat (first | (with_reducible first | exact HB.out | apply below_alloc | apply pw_below_drewN | apply below_drew1 | refine below_set ?_ GE101.out | refine below_set ?_ GE119.out) | exact HB.out)) hb)
                      clear HO_120001
                      clear HO_120002
                      clear BK101
                      clear BK119
                      clear HB
                      have HO_120001 := n0_
                      have HO_120002 := n1_
                      have HO123 := n2_
                      have BK101 := n3_
                      have BK119 := n4_
                      have HB := n5_
                      clear n0_ n1_ n2_ n3_ n4_ n5_
                      (try clear hb)
                      (try clear hb2)
                      (try clear hk)
                      (try clear hi)
                      (try clear ho0)
                      refine hK.out _ _ ⟨(blk_cell BK101.out 0).trans rfl, (blk_cell BK101.out 1).trans rfl, (blk_cell BK101.out 2).trans rfl⟩ (fun hHeld => ?_)
                      clear hK K
                      refine norm_ (a' := ?_) ?_ ?_
                      rotate_left
                      · show Act.put _ (some 65) _ = _
                        simp only [Act.put, List.setIfInBounds_toArray, List.set_cons_zero, List.set_cons_succ, i64_w, i32_w]
                        rfl
                      refine one_ (i := 7) (N := some 68) #[true, true, true, true, true, true, true, true, false, false, false, false] rfl rfl (one_of HT_.out (by kernel_rfl)) (by decide) (fun K hK => ?_)
                      refine goes_ Tryd.func37 (by kernel_rfl) rfl #[.string a2, .agg #[.int .i64 a3_0, .slice A3_1 l3_1.length c3_1, .slice A3_2 l3_2.length c3_2]] (by rfl) rfl rfl (by (try simp only [List.map_toArray, List.map_cons, List.map_nil]); first | done | rfl | (simp only [List.length_drop, List.length_take]; rfl)) ?_
                      with_reducible refine (planisphereref02_Checked.calls a2 a3_0 _ _ l3_1 _ _ l3_2 t124 _ ?side1 ?side2 ?side3 ?side4 A48.out).mono ?_
                      (case side1 => repeat (first | exact (Kd.C_below HR3_1.out HB.out) | (with_reducible refine Kd.C_alloc ?_ _) | (with_reducible refine Kd.C_drewN ?_ _) | (with_reducible refine Kd.C_drew ?_)))
                      (case side2 => exact HC3_1.out)
                      (case side3 => repeat (first | exact (Kd.C_below HR3_2.out HB.out) | (with_reducible refine Kd.C_alloc ?_ _) | (with_reducible refine Kd.C_drewN ?_ _) | (with_reducible refine Kd.C_drew ?_)))
                      (case side4 => exact HC3_2.out)
                      rintro e w53 ⟨v125, rfl, ho0, hb⟩
                      refine ⟨_, rfl, ?_⟩
                      have n0_ := Aside0.mk (Kd.R_elder' (by (with_reducible repeat (first | apply Kd.R_alloc | apply Kd.R_drewN | apply Kd.R_drew)); exact HO_120001.out) (Kd.R_base ho0) hb)
                      have n1_ := Aside0.mk (Kd.R_elder' (by (with_reducible repeat (first | apply Kd.R_alloc | apply Kd.R_drewN | apply Kd.R_drew)); exact HO_120002.out) (Kd.R_base ho0) hb)
                      have n2_ := Aside0.mk (Kd.R_elder' (by (with_reducible repeat (first | apply Kd.R_alloc | apply Kd.R_drewN | apply Kd.R_drew)); exact HO123.out) (Kd.R_base ho0) hb)
                      have n3_ := Aside0.mk (Kd.R_lower (Kd.R_new' (Kd.R_new' (Kd.R_new' ho0 (Kd.R_lt (by (with_reducible repeat (first | apply Kd.R_alloc | apply Kd.R_drewN | apply Kd.R_drew)); exact HO_120001.out))) (Kd.R_lt (by (with_reducible repeat (first | apply Kd.R_alloc | apply Kd.R_drewN | apply Kd.R_drew)); exact HO_120002.out))) (Kd.R_lt (by (with_reducible repeat (first | apply Kd.R_alloc | apply Kd.R_drewN | apply Kd.R_drew)); exact HO123.out))) (below_size (by repeat (first | (with_reducible first | exact HB.out | apply below_alloc | apply pw_below_drewN | apply below_drew1 | refine below_set ?_ GE101.out | refine below_set ?_ GE119.out) | exact HB.out))))
                      have n4_ := Aside0.mk (blk_below (g := gb101) (o := .cells #[.int .i64 a3_0, .slice A3_1 l3_1.length c3_1, .slice A3_2 l3_2.length c3_2] 35 (0, 0)) (by (with_reducible repeat (first | refine blk_drewN ?_ _ | refine blk_drew ?_ | refine blk_alloc ?_ _)); exact BK101.out) hb)
                      have n5_ := Aside0.mk (blk_below (g := gb119) (o := .cells #[.int .i64 t111, .slice Ao37 t112.length co37, .slice Ao38 t115.length co38] 35 (0, 0)) (by (with_reducible repeat (first | refine blk_drewN ?_ _ | refine blk_drew ?_ | refine blk_alloc ?_ _)); exact BK119.out) hb)
                      have n6_ := Aside0.mk (below_step (by repeat (first | (with_reducible first | exact HB.out | apply below_alloc | apply pw_below_drewN | apply below_drew1 | refine below_set ?_ GE101.out | refine below_set ?_ GE119.out) | exact HB.out)) hb)
                      clear HO_120001
                      clear HO_120002
                      clear HO123
                      clear BK101
                      clear BK119
                      clear HB
                      have HO_120001 := n0_
                      have HO_120002 := n1_
                      have HO123 := n2_
                      have HO126 := n3_
                      have BK101 := n4_
                      have BK119 := n5_
                      have HB := n6_
                      clear n0_ n1_ n2_ n3_ n4_ n5_ n6_
                      (try clear hb)
                      (try clear hb2)
                      (try clear hk)
                      (try clear hi)
                      (try clear ho0)
                      obtain ⟨Ao55, co55, eo55⟩ := Kd.R_slice HO126.out
                      (first | subst eo55 | (injection eo55 with f1_ f2_ f3_; have f4_ := f1_.symm; have f5_ := f3_.symm; clear f1_ f2_ f3_; subst f4_; subst f5_))
                      refine hK.out _ _ ⟨(blk_cell BK101.out 0).trans rfl, (blk_cell BK101.out 1).trans rfl, (blk_cell BK101.out 2).trans rfl⟩ (fun hHeld => ?_)
                      clear hK K
                      refine norm_ (a' := ?_) ?_ ?_
                      rotate_left
                      · show Act.put _ (some 68) _ = _
                        simp only [Act.put, List.setIfInBounds_toArray, List.set_cons_zero, List.set_cons_succ, i64_w, i32_w]
                        rfl
                      refine one_ (i := 8) (N := some 69) #[true, true, true, true, true, true, true, true, true, false, false, false] rfl rfl (one_of HT_.out (by kernel_rfl)) (by decide) (fun K hK => ?_)
                      refine Kd.R_append_rows_step Kd.string (w0 := w) w.heap.size (by rfl) (.tmp 65) (.tmp 68) 22 9 (.string ⟨#[]⟩) 16 rfl Tryd.underlying22 info9 rfl (by decide) (by omega) v122 t121 t124 _ _ _ (fun k_ => some k_ ≠ (.slice Ao37 t112.length co37 : Value).ownBlock ∧ some k_ ≠ (.slice Ao38 t115.length co38 : Value).ownBlock ∧ some k_ ≠ (.slice Ao55 t124.length co55 : Value).ownBlock) (fun _ => False) rfl rfl ?aO ?aR (fun _ _ h => h) (fun _ h => h.elim) ?aF ?aB ?aS ?aL ?_
                      (case aR => repeat (first | exact (Kd.R_reads' HO126.out).2.2 | (with_reducible refine Kd.C_alloc ?_ _) | (with_reducible refine Kd.C_drewN ?_ _) | (with_reducible refine Kd.C_drew ?_)))
                      (case aB => exact (by repeat (first | (with_reducible first | exact HB.out | apply below_alloc | apply pw_below_drewN | apply below_drew1 | refine below_set ?_ GE101.out | refine below_set ?_ GE119.out) | exact HB.out)))
                      (case aF => exact (fun k_ hk => ⟨Kd.fresh' (Kd.R_lt (by (with_reducible repeat (first | apply Kd.R_alloc | apply Kd.R_drewN | apply Kd.R_drew)); exact HO_120001.out)) k_ hk, Kd.fresh' (Kd.R_lt (by (with_reducible repeat (first | apply Kd.R_alloc | apply Kd.R_drewN | apply Kd.R_drew)); exact HO_120002.out)) k_ hk, Kd.fresh' (Kd.R_lt (by (with_reducible repeat (first | apply Kd.R_alloc | apply Kd.R_drewN | apply Kd.R_drew)); exact HO126.out)) k_ hk⟩))
                      (case aO => exact (by (with_reducible repeat (first | apply Kd.R_alloc | apply Kd.R_drewN | apply Kd.R_drew)); exact Kd.R_mono HO123.out (fun _ hk => ⟨hk.1.1.2, ⟨hk.1.2, hk.2⟩⟩)))
                      (case aS => exact (below_size (by repeat (first | (with_reducible first | exact HB.out | apply below_alloc | apply pw_below_drewN | apply below_drew1 | refine below_set ?_ GE101.out | refine below_set ?_ GE119.out) | exact HB.out))))
                      (case aL => have := LMc49.out; omega)
                      intro v128 w54 ho hb hg hat
                      rw [← Ny127.out] at ho
                      have n0_ := Aside0.mk (Kd.R_after (ok := (fun k_ => some k_ ≠ (.slice Ao38 t115.length co38 : Value).ownBlock ∧ some k_ ≠ (.slice Ao55 t124.length co55 : Value).ownBlock)) (by (with_reducible repeat (first | apply Kd.R_alloc | apply Kd.R_drewN | apply Kd.R_drew)); exact Kd.R_mono HO_120001.out (fun _ hk => ⟨⟨hk.1.1, hk.2⟩, hk.1.2⟩)) hg hat)
                      have n1_ := Aside0.mk (Kd.R_after (ok := (fun k_ => some k_ ≠ (.slice Ao37 t112.length co37 : Value).ownBlock ∧ some k_ ≠ (.slice Ao55 t124.length co55 : Value).ownBlock)) (by (with_reducible repeat (first | apply Kd.R_alloc | apply Kd.R_drewN | apply Kd.R_drew)); exact Kd.R_mono HO_120002.out (fun _ hk => ⟨⟨hk.1.1, hk.2⟩, hk.1.2⟩)) hg hat)
                      have n2_ := Aside0.mk (blk_grown (g := gb101) (o := .cells #[.int .i64 a3_0, .slice A3_1 l3_1.length c3_1, .slice A3_2 l3_2.length c3_2] 35 (0, 0)) (by (with_reducible repeat (first | refine blk_drewN ?_ _ | refine blk_drew ?_ | refine blk_alloc ?_ _)); exact BK101.out) hg (Kd.R_ne HO123.out BK101.out (by decide)))
                      have n3_ := Aside0.mk (blk_grown (g := gb119) (o := .cells #[.int .i64 t111, .slice Ao37 t112.length co37, .slice Ao38 t115.length co38] 35 (0, 0)) (by (with_reducible repeat (first | refine blk_drewN ?_ _ | refine blk_drew ?_ | refine blk_alloc ?_ _)); exact BK119.out) hg (Kd.R_ne HO123.out BK119.out (by decide)))
                      have n4_ := Aside0.mk (Kd.R_after (ok := (fun k_ => some k_ ≠ (.slice Ao37 t112.length co37 : Value).ownBlock ∧ some k_ ≠ (.slice Ao38 t115.length co38 : Value).ownBlock)) (by (with_reducible repeat (first | apply Kd.R_alloc | apply Kd.R_drewN | apply Kd.R_drew)); exact Kd.R_mono HO126.out (fun _ hk => ⟨⟨hk.1.1.2, hk.1.2⟩, hk.2⟩)) hg hat)
                      have n5_ := Aside0.mk (hb)
                      have n6_ := Aside0.mk (ho)
                      clear HO_120001
                      clear HO_120002
                      clear BK101
                      clear BK119
                      clear HO126
                      clear HB
                      clear HO123
                      have HO_120001 := n0_
                      have HO_120002 := n1_
                      have BK101 := n2_
                      have BK119 := n3_
                      have HO126 := n4_
                      have HB := n5_
                      have HO129 := n6_
                      clear n0_ n1_ n2_ n3_ n4_ n5_ n6_
                      clear ho hb hg hat
                      obtain ⟨Ao56, co56, eo56⟩ := Kd.R_slice HO129.out
                      (first | subst eo56 | (injection eo56 with f1_ f2_ f3_; have f4_ := f1_.symm; have f5_ := f3_.symm; clear f1_ f2_ f3_; subst f4_; subst f5_))
                      refine hK.out _ _ ⟨(blk_cell BK101.out 0).trans rfl, (blk_cell BK101.out 1).trans rfl, (blk_cell BK101.out 2).trans rfl⟩ (fun hHeld => ?_)
                      clear hK K
                      refine norm_ (a' := ?_) ?_ ?_
                      rotate_left
                      · show Act.put _ (some 69) _ = _
                        simp only [Act.put, List.setIfInBounds_toArray, List.set_cons_zero, List.set_cons_succ, i64_w, i32_w]
                        rfl
                      refine one_ (i := 9) (N := some 70) #[true, true, true, true, true, true, true, true, true, true, false, false] rfl rfl (one_of HT_.out (by kernel_rfl)) (by decide) (fun K hK => ?_)
                      refine goes_ Tryd.func35 (by kernel_rfl) rfl #[.slice Ao56 y127.length co56] (by rfl) rfl rfl (by (try simp only [List.map_toArray, List.map_cons, List.map_nil]); first | done | rfl | (simp only [List.length_drop, List.length_take]; rfl)) ?_
                      with_reducible refine (planisphereref02_Shown.calls _ _ y127 t130 _ ?side1 ?side2 A50.out).mono ?_
                      (case side1 => repeat (first | exact (Kd.R_reads' HO129.out).2.2 | (with_reducible refine Kd.C_alloc ?_ _) | (with_reducible refine Kd.C_drewN ?_ _) | (with_reducible refine Kd.C_drew ?_)))
                      (case side2 => exact (Kd.R_reads' HO129.out).2.1)
                      rintro e w57 ⟨rfl, hb⟩
                      refine ⟨_, rfl, ?_⟩
                      have n0_ := Aside0.mk (Kd.R_below (by (with_reducible repeat (first | apply Kd.R_alloc | apply Kd.R_drewN | apply Kd.R_drew)); exact HO_120001.out) hb)
                      have n1_ := Aside0.mk (Kd.R_below (by (with_reducible repeat (first | apply Kd.R_alloc | apply Kd.R_drewN | apply Kd.R_drew)); exact HO_120002.out) hb)
                      have n2_ := Aside0.mk (Kd.R_below (by (with_reducible repeat (first | apply Kd.R_alloc | apply Kd.R_drewN | apply Kd.R_drew)); exact HO126.out) hb)
                      have n3_ := Aside0.mk (Kd.R_below (by (with_reducible repeat (first | apply Kd.R_alloc | apply Kd.R_drewN | apply Kd.R_drew)); exact HO129.out) hb)
                      have n4_ := Aside0.mk (blk_below (g := gb101) (o := .cells #[.int .i64 a3_0, .slice A3_1 l3_1.length c3_1, .slice A3_2 l3_2.length c3_2] 35 (0, 0)) (by (with_reducible repeat (first | refine blk_drewN ?_ _ | refine blk_drew ?_ | refine blk_alloc ?_ _)); exact BK101.out) hb)
                      have n5_ := Aside0.mk (blk_below (g := gb119) (o := .cells #[.int .i64 t111, .slice Ao37 t112.length co37, .slice Ao38 t115.length co38] 35 (0, 0)) (by (with_reducible repeat (first | refine blk_drewN ?_ _ | refine blk_drew ?_ | refine blk_alloc ?_ _)); exact BK119.out) hb)
                      have n6_ := Aside0.mk (below_step (by repeat (first | (with_reducible first | exact HB.out | apply below_alloc | apply pw_below_drewN | apply below_drew1 | refine below_set ?_ GE101.out | refine below_set ?_ GE119.out) | exact HB.out)) hb)
                      clear HO_120001
                      clear HO_120002
                      clear HO126
                      clear HO129
                      clear BK101
                      clear BK119
                      clear HB
                      have HO_120001 := n0_
                      have HO_120002 := n1_
                      have HO126 := n2_
                      have HO129 := n3_
                      have BK101 := n4_
                      have BK119 := n5_
                      have HB := n6_
                      clear n0_ n1_ n2_ n3_ n4_ n5_ n6_
                      (try clear hb)
                      (try clear hb2)
                      (try clear hk)
                      (try clear hi)
                      refine hK.out _ _ ⟨(blk_cell BK101.out 0).trans rfl, (blk_cell BK101.out 1).trans rfl, (blk_cell BK101.out 2).trans rfl⟩ (fun hHeld => ?_)
                      clear hK K
                      refine norm_ (a' := ?_) ?_ ?_
                      rotate_left
                      · show Act.put _ (some 70) _ = _
                        simp only [Act.put, List.setIfInBounds_toArray, List.set_cons_zero, List.set_cons_succ, i64_w, i32_w]
                        rfl
                      refine pure_ (i := 10) (N := some 71) (v := ?_) (a' := ?_) #[true, true, true, true, true, true, true, true, true, true, true, false] rfl rfl (any_of HT_.out (by kernel_rfl)) (fun _ _ _ h => h) (Or.inl ⟨by rfl, ?_⟩) ?_ ?_
                      rotate_left
                      · intro w'
                        first | (go_simp; with_reducible rfl) | (go_simp; rw [if_neg (by (have hone_ : ∀ b : UInt8, (ByteArray.mk #[b]).size = 1 := fun _ => rfl); (simp only [decide_eq_true_eq, ByteArray.size_extract, ByteArray.size_append, hone_] at *); omega)]; try with_reducible rfl)
                      rotate_left
                      · simp only [Act.put, List.setIfInBounds_toArray, List.set_cons_zero, List.set_cons_succ, i64_w, i32_w]
                        rfl
                      refine pure_ (i := 11) (N := some 8) (v := ?_) (a' := ?_) #[true, true, true, true, true, true, true, true, true, true, true, true] rfl rfl (any_of HT_.out (by kernel_rfl)) (fun _ _ _ h => h) (Or.inl ⟨by rfl, ?_⟩) ?_ ?_
                      rotate_left
                      · intro w'
                        first | (go_simp; with_reducible rfl) | (go_simp; rw [if_neg (by (have hone_ : ∀ b : UInt8, (ByteArray.mk #[b]).size = 1 := fun _ => rfl); (simp only [decide_eq_true_eq, ByteArray.size_extract, ByteArray.size_append, hone_] at *); omega)]; try with_reducible rfl)
                      rotate_left
                      · simp only [Act.put, List.setIfInBounds_toArray, List.set_cons_zero, List.set_cons_succ, i64_w, i32_w]
                        rfl
                      refine done_ (done_of HT_.out (by kernel_rfl)) ?_
                      try go_wp2
                      go_ret
                      exact ⟨by first | rfl | (simp [errW_none, errW_some] <;> rfl) | (simp [*, errW_none, errW_some] <;> rfl), by repeat (first | (with_reducible first | exact HB.out | apply below_alloc | apply pw_below_drewN | apply below_drew1 | refine below_set ?_ GE101.out | refine below_set ?_ GE119.out) | exact HB.out)⟩
                    · rw [if_neg c49] at H
                      exact absurd H (by simp)
                  · replace c46 := Bool.eq_false_iff.mpr c46
                    subst c46
                    have H1 : (some false) = some r := by rw [if_neg (show ¬ (false = true) by decide)] at H; exact H
                    clear H
                    have H := H1
                    clear H1
                    obtain rfl := Option.some.inj H
                    try go_wp2
                    have n0_ := Aside0.mk (Kd.R_drew HO_120001.out)
                    have n1_ := Aside0.mk (Kd.R_drew HO_120002.out)
                    have n2_ := Aside0.mk (blk_drew BK101.out)
                    have n3_ := Aside0.mk (blk_drew BK119.out)
                    have n4_ := Aside0.mk (below_drew1 HB.out)
                    clear HO_120001
                    clear HO_120002
                    clear BK101
                    clear BK119
                    clear HB
                    have HO_120001 := n0_
                    have HO_120002 := n1_
                    have BK101 := n2_
                    have BK119 := n3_
                    have HB := n4_
                    clear n0_ n1_ n2_ n3_ n4_
                    refine start_ (n := 12) (S := fun w' => True) (ds := []) #[false, false, false, false, false, false, false, false, false, false, false, false] (by kernel_rfl) rfl rfl trivial (fun hHeld => ?_); refine with_tabW planispherelaw02_SealSound.tab13 planispherelaw02_SealSound.bits13 (fun HT_ HW_ => ?_)
                    generalize wc.drew = w58 at HO_120001 HO_120002 BK101 BK119 HB hHeld ⊢
                    refine pure_ (i := 0) (N := some 61) (v := ?_) (a' := ?_) #[true, false, false, false, false, false, false, false, false, false, false, false] rfl rfl (any_of HT_.out (by kernel_rfl)) (fun _ _ _ h => h) (Or.inl ⟨by rfl, ?_⟩) ?_ ?_
                    rotate_left
                    · intro w'
                      first | (go_simp; with_reducible rfl) | (go_simp; rw [if_neg (by (have hone_ : ∀ b : UInt8, (ByteArray.mk #[b]).size = 1 := fun _ => rfl); (simp only [decide_eq_true_eq, ByteArray.size_extract, ByteArray.size_append, hone_] at *); omega)]; try with_reducible rfl)
                    rotate_left
                    · simp only [Act.put, List.setIfInBounds_toArray, List.set_cons_zero, List.set_cons_succ, i64_w, i32_w]
                      rfl
                    refine pure_ (i := 1) (N := some 62) (v := ?_) (a' := ?_) #[true, true, false, false, false, false, false, false, false, false, false, false] rfl rfl (any_of HT_.out (by kernel_rfl)) (fun _ _ _ h => h) (Or.inl ⟨by rfl, ?_⟩) ?_ ?_
                    rotate_left
                    · intro w'
                      first | (go_simp; with_reducible rfl) | (go_simp; rw [if_neg (by (have hone_ : ∀ b : UInt8, (ByteArray.mk #[b]).size = 1 := fun _ => rfl); (simp only [decide_eq_true_eq, ByteArray.size_extract, ByteArray.size_append, hone_] at *); omega)]; try with_reducible rfl)
                    rotate_left
                    · simp only [Act.put, List.setIfInBounds_toArray, List.set_cons_zero, List.set_cons_succ, i64_w, i32_w]
                      rfl
                    refine pure_ (i := 2) (N := some 63) (v := undef) (a' := ?_) #[true, true, true, false, false, false, false, false, false, false, false, false] rfl rfl (any_of HT_.out (by kernel_rfl)) (fun _ _ _ h => h) (Or.inr ⟨by rfl, rfl⟩) ?_ ?_
                    rotate_left
                    · simp only [Act.put, List.setIfInBounds_toArray, List.set_cons_zero, List.set_cons_succ, i64_w, i32_w]
                      rfl
                    refine pure_ (i := 3) (N := some 64) (v := undef) (a' := ?_) #[true, true, true, true, false, false, false, false, false, false, false, false] rfl rfl (any_of HT_.out (by kernel_rfl)) (fun _ _ _ h => h) (Or.inr ⟨by rfl, rfl⟩) ?_ ?_
                    rotate_left
                    · simp only [Act.put, List.setIfInBounds_toArray, List.set_cons_zero, List.set_cons_succ, i64_w, i32_w]
                      rfl
                    refine pure_ (i := 4) (N := some 65) (v := undef) (a' := ?_) #[true, true, true, true, true, false, false, false, false, false, false, false] rfl rfl (any_of HT_.out (by kernel_rfl)) (fun _ _ _ h => h) (Or.inr ⟨by rfl, rfl⟩) ?_ ?_
                    rotate_left
                    · simp only [Act.put, List.setIfInBounds_toArray, List.set_cons_zero, List.set_cons_succ, i64_w, i32_w]
                      rfl
                    refine pure_ (i := 5) (N := some 66) (v := undef) (a' := ?_) #[true, true, true, true, true, true, false, false, false, false, false, false] rfl rfl (any_of HT_.out (by kernel_rfl)) (fun _ _ _ h => h) (Or.inr ⟨by rfl, rfl⟩) ?_ ?_
                    rotate_left
                    · simp only [Act.put, List.setIfInBounds_toArray, List.set_cons_zero, List.set_cons_succ, i64_w, i32_w]
                      rfl
                    refine pure_ (i := 6) (N := some 67) (v := undef) (a' := ?_) #[true, true, true, true, true, true, true, false, false, false, false, false] rfl rfl (any_of HT_.out (by kernel_rfl)) (fun _ _ _ h => h) (Or.inr ⟨by rfl, rfl⟩) ?_ ?_
                    rotate_left
                    · simp only [Act.put, List.setIfInBounds_toArray, List.set_cons_zero, List.set_cons_succ, i64_w, i32_w]
                      rfl
                    refine pure_ (i := 7) (N := some 68) (v := undef) (a' := ?_) #[true, true, true, true, true, true, true, true, false, false, false, false] rfl rfl (any_of HT_.out (by kernel_rfl)) (fun _ _ _ h => h) (Or.inr ⟨by rfl, rfl⟩) ?_ ?_
                    rotate_left
                    · simp only [Act.put, List.setIfInBounds_toArray, List.set_cons_zero, List.set_cons_succ, i64_w, i32_w]
                      rfl
                    refine pure_ (i := 8) (N := some 69) (v := undef) (a' := ?_) #[true, true, true, true, true, true, true, true, true, false, false, false] rfl rfl (any_of HT_.out (by kernel_rfl)) (fun _ _ _ h => h) (Or.inr ⟨by rfl, rfl⟩) ?_ ?_
                    rotate_left
                    · simp only [Act.put, List.setIfInBounds_toArray, List.set_cons_zero, List.set_cons_succ, i64_w, i32_w]
                      rfl
                    refine pure_ (i := 9) (N := some 70) (v := undef) (a' := ?_) #[true, true, true, true, true, true, true, true, true, true, false, false] rfl rfl (any_of HT_.out (by kernel_rfl)) (fun _ _ _ h => h) (Or.inr ⟨by rfl, rfl⟩) ?_ ?_
                    rotate_left
                    · simp only [Act.put, List.setIfInBounds_toArray, List.set_cons_zero, List.set_cons_succ, i64_w, i32_w]
                      rfl
                    refine pure_ (i := 10) (N := some 71) (v := ?_) (a' := ?_) #[true, true, true, true, true, true, true, true, true, true, true, false] rfl rfl (any_of HT_.out (by kernel_rfl)) (fun _ _ _ h => h) (Or.inl ⟨by rfl, ?_⟩) ?_ ?_
                    rotate_left
                    · intro w'
                      first | (go_simp; with_reducible rfl) | (go_simp; rw [if_neg (by (have hone_ : ∀ b : UInt8, (ByteArray.mk #[b]).size = 1 := fun _ => rfl); (simp only [decide_eq_true_eq, ByteArray.size_extract, ByteArray.size_append, hone_] at *); omega)]; try with_reducible rfl)
                    rotate_left
                    · simp only [Act.put, List.setIfInBounds_toArray, List.set_cons_zero, List.set_cons_succ, i64_w, i32_w]
                      rfl
                    refine pure_ (i := 11) (N := some 8) (v := ?_) (a' := ?_) #[true, true, true, true, true, true, true, true, true, true, true, true] rfl rfl (any_of HT_.out (by kernel_rfl)) (fun _ _ _ h => h) (Or.inl ⟨by rfl, ?_⟩) ?_ ?_
                    rotate_left
                    · intro w'
                      first | (go_simp; with_reducible rfl) | (go_simp; rw [if_neg (by (have hone_ : ∀ b : UInt8, (ByteArray.mk #[b]).size = 1 := fun _ => rfl); (simp only [decide_eq_true_eq, ByteArray.size_extract, ByteArray.size_append, hone_] at *); omega)]; try with_reducible rfl)
                    rotate_left
                    · simp only [Act.put, List.setIfInBounds_toArray, List.set_cons_zero, List.set_cons_succ, i64_w, i32_w]
                      rfl
                    refine done_ (done_of HT_.out (by kernel_rfl)) ?_
                    try go_wp2
                    go_ret
                    exact ⟨by first | rfl | (simp [errW_none, errW_some] <;> rfl) | (simp [*, errW_none, errW_some] <;> rfl), by repeat (first | (with_reducible first | exact HB.out | apply below_alloc | apply pw_below_drewN | apply below_drew1 | refine below_set ?_ GE101.out | refine below_set ?_ GE119.out) | exact HB.out)⟩
          · replace c26 := Bool.eq_false_iff.mpr c26
            subst c26
            have H1 : (some t102) = some r := by rw [if_neg (show ¬ (false = true) by decide)] at H; exact H
            clear H
            have H := H1
            clear H1
            obtain rfl := Option.some.inj H
            go_wp2_with (first | ((with_reducible refine gate_callee (f := 28) rfl ?_); refine goesL_ (some 33) rfl rfl Tryd.func28 (by kernel_rfl) rfl #[.string a0, .int .i64 (Int.tmod (wrap64 (a1)) 3)] rfl (by (try simp only [List.map_toArray, List.map_cons, List.map_nil]); first | done | rfl | (simp only [List.length_drop, List.length_take]; rfl)) ?_; (with_reducible refine (seal_Public.calls a0 (Int.tmod (wrap64 (a1)) 3) t108 t109 _ A23.out (hG := ?hGl)).mono ?_); clear A23; (case hGl => exact (Glob.below HG_.out (by repeat (first | (with_reducible first | exact HB.out | apply below_alloc | apply pw_below_drewN | apply below_drew1) | exact HB.out)))); rintro e w59 ⟨rfl, hb⟩; refine ⟨_, rfl, ?_⟩; have n0_ := Aside0.mk (blk_below (g := gb101) (o := .cells #[.int .i64 a3_0, .slice A3_1 l3_1.length c3_1, .slice A3_2 l3_2.length c3_2] 35 (0, 0)) (by (with_reducible repeat (first | refine blk_drewN ?_ _ | refine blk_drew ?_ | refine blk_alloc ?_ _)); exact BK101.out) hb); have n1_ := Aside0.mk (below_step (by repeat (first | (with_reducible first | exact HB.out | apply below_alloc | apply pw_below_drewN | apply below_drew1 | refine below_set ?_ GE101.out) | exact HB.out)) hb); clear BK101; clear HB; have BK101 := n0_; have HB := n1_; clear n0_ n1_; (try clear hb); (try clear hb2); (try clear hk); (try clear hi); have hcz60_0 : w59.cell? ⟨gb101, 0, none⟩ = some (.int .i64 a3_0) := (blk_cell BK101.out 0).trans rfl; have hcz60_1 : w59.cell? ⟨gb101, 1, none⟩ = some (.slice A3_1 l3_1.length c3_1) := (blk_cell BK101.out 1).trans rfl; have hcz60_2 : w59.cell? ⟨gb101, 2, none⟩ = some (.slice A3_2 l3_2.length c3_2) := (blk_cell BK101.out 2).trans rfl; have hfz60_0 := blk_frozen BK101.out 0; have hfz60_1 := blk_frozen BK101.out 1; have hfz60_2 := blk_frozen BK101.out 2) | ((with_reducible refine gate_callee (f := 33) rfl ?_); refine goesL_ (some 41) rfl rfl Tryd.func33 (by kernel_rfl) rfl #[.string t108, .string a2, .agg #[.int .i64 a3_0, .slice A3_1 l3_1.length c3_1, .slice A3_2 l3_2.length c3_2]] rfl (by (try simp only [List.map_toArray, List.map_cons, List.map_nil]); first | done | rfl | (simp only [List.length_drop, List.length_take]; rfl)) ?_; (with_reducible refine (seal_Verify.calls t108 a2 a3_0 _ _ l3_1 _ _ l3_2 false _ ?side1 ?side2 ?side3 ?side4 A25.out (hG := ?hGl)).mono ?_); clear A25; (case hGl => exact (Glob.below HG_.out (by repeat (first | (with_reducible first | exact HB.out | apply below_alloc | apply pw_below_drewN | apply below_drew1) | exact HB.out)))); (case side1 => repeat (first | exact (Kd.C_below HR3_1.out HB.out) | (with_reducible refine Kd.C_alloc ?_ _) | (with_reducible refine Kd.C_drewN ?_ _) | (with_reducible refine Kd.C_drew ?_))); (case side2 => exact HC3_1.out); (case side3 => repeat (first | exact (Kd.C_below HR3_2.out HB.out) | (with_reducible refine Kd.C_alloc ?_ _) | (with_reducible refine Kd.C_drewN ?_ _) | (with_reducible refine Kd.C_drew ?_))); (case side4 => exact HC3_2.out); rintro e w61 ⟨rfl, hb⟩; refine ⟨_, rfl, ?_⟩; have n0_ := Aside0.mk (blk_below (g := gb101) (o := .cells #[.int .i64 a3_0, .slice A3_1 l3_1.length c3_1, .slice A3_2 l3_2.length c3_2] 35 (0, 0)) (by (with_reducible repeat (first | refine blk_drewN ?_ _ | refine blk_drew ?_ | refine blk_alloc ?_ _)); exact BK101.out) hb); have n1_ := Aside0.mk (below_step (by repeat (first | (with_reducible first | exact HB.out | apply below_alloc | apply pw_below_drewN | apply below_drew1 | refine below_set ?_ GE101.out) | exact HB.out)) hb); clear BK101; clear HB; have BK101 := n0_; have HB := n1_; clear n0_ n1_; (try clear hb); (try clear hb2); (try clear hk); (try clear hi)))
            go_ret
            exact ⟨by first | rfl | (simp [errW_none, errW_some] <;> rfl) | (simp [*, errW_none, errW_some] <;> rfl), by repeat (first | (with_reducible first | exact HB.out | apply below_alloc | apply pw_below_drewN | apply below_drew1 | refine below_set ?_ GE101.out) | exact HB.out)⟩
        · rw [if_neg c24] at H
          have c24b0 : (t109 == 0) = false := beq_eq_false_iff_ne.mpr c24
          have c24b1 : (t109 != 0) = true := bne_iff_ne.mpr c24
          obtain rfl := Option.some.inj H
          go_wp2_with (first | ((with_reducible refine gate_callee (f := 28) rfl ?_); refine goesL_ (some 33) rfl rfl Tryd.func28 (by kernel_rfl) rfl #[.string a0, .int .i64 (Int.tmod (wrap64 (a1)) 3)] rfl (by (try simp only [List.map_toArray, List.map_cons, List.map_nil]); first | done | rfl | (simp only [List.length_drop, List.length_take]; rfl)) ?_; (with_reducible refine (seal_Public.calls a0 (Int.tmod (wrap64 (a1)) 3) t108 t109 _ A23.out (hG := ?hGl)).mono ?_); clear A23; (case hGl => exact (Glob.below HG_.out (by repeat (first | (with_reducible first | exact HB.out | apply below_alloc | apply pw_below_drewN | apply below_drew1) | exact HB.out)))); rintro e w62 ⟨rfl, hb⟩; refine ⟨_, rfl, ?_⟩; have n0_ := Aside0.mk (blk_below (g := gb101) (o := .cells #[.int .i64 a3_0, .slice A3_1 l3_1.length c3_1, .slice A3_2 l3_2.length c3_2] 35 (0, 0)) (by (with_reducible repeat (first | refine blk_drewN ?_ _ | refine blk_drew ?_ | refine blk_alloc ?_ _)); exact BK101.out) hb); have n1_ := Aside0.mk (below_step (by repeat (first | (with_reducible first | exact HB.out | apply below_alloc | apply pw_below_drewN | apply below_drew1 | refine below_set ?_ GE101.out) | exact HB.out)) hb); clear BK101; clear HB; have BK101 := n0_; have HB := n1_; clear n0_ n1_; (try clear hb); (try clear hb2); (try clear hk); (try clear hi)))
          go_ret
          exact ⟨by first | rfl | (simp [errW_none, errW_some] <;> rfl) | (simp [*, errW_none, errW_some] <;> rfl), by repeat (first | (with_reducible first | exact HB.out | apply below_alloc | apply pw_below_drewN | apply below_drew1 | refine below_set ?_ GE101.out) | exact HB.out)⟩
end Go.Proofs.YteleheamnighkaaDoor.PSSound
end
section
set_option linter.unusedVariables false
set_option linter.unusedSimpArgs false
namespace Go.Proofs.YteleheamnighkaaDoor
open Go.RowKit Go.DoorKit Go.Proofs.YteleheamnighkaaDoorW.PrintWords
def Txts (L : List ByteArray) (x : Dig.Txt) : Prop := ofT x ∈ L
theorem ofT_inj {x y : Dig.Txt} (h : ofT x = ofT y) : x = y := by have := congrArg tx h; rwa [tx_ofT, tx_ofT] at this
theorem one_of_shown {L : List ByteArray} (h : shownB L = false) : Dig.One (Txts L) := by
  intro x y hx hy hs
  obtain ⟨i, hi, ei⟩ := List.getElem_of_mem hx
  obtain ⟨k, hk, ek⟩ := List.getElem_of_mem hy
  have ai : at0 L i = ofT x := by unfold at0; rw [List.getD_eq_getElem?_getD, List.getElem?_eq_getElem hi]; exact ei
  have ak : at0 L k = ofT y := by unfold at0; rw [List.getD_eq_getElem?_getD, List.getElem?_eq_getElem hk]; exact ek
  refine Decidable.byContradiction fun hne => ?_
  have hn : ofT x ≠ ofT y := fun e => hne (ofT_inj e)
  have hsum : sumB (ofT x) = sumB (ofT y) := by unfold sumB; rw [tx_ofT, tx_ofT, hs]
  by_cases hik : i = k
  · subst hik; exact hn (ai.symm.trans ak)
  · by_cases hlt : k < i
    · have : shownB L = true := shown_true hi hlt ⟨by rw [ai, ak]; exact hsum, by rw [ai, ak]; exact hn⟩
      rw [h] at this; cases this
    · have : shownB L = true := shown_true hk (show i < k by omega) ⟨by rw [ai, ak]; exact hsum.symm, by rw [ai, ak]; exact fun e => hn e.symm⟩
      rw [h] at this; cases this
theorem mem_chained (t : Dig.Txt) (n j : Nat) (h : j < n) : ofT (Dig.chain t j) ∈ chainedB t n := by
  unfold chainedB
  exact List.mem_map.2 ⟨j, List.mem_range.2 h, rfl⟩
theorem part_chain (s : Dig.Txt) (i n : Nat) (j : Nat) (hj : j ≤ n) : ∀ (K k : Nat), k < K → ofT (Dig.chain (Dig.start0 s i k) j) ∈ partTo s i n K
  | 0, k, h => absurd h (by omega)
  | K + 1, k, h => by
    rw [partTo]
    by_cases e : k = K
    · subst e; exact List.mem_append_right _ (List.mem_cons_of_mem _ (mem_chained _ _ _ (by omega)))
    · exact List.mem_append_left _ (part_chain s i n j hj K k (by omega))
theorem keys_part (s : Dig.Txt) (n : Nat) : ∀ (I i : Nat), i < I → ∀ x ∈ keyPart s n i, x ∈ keysTo s n I
  | 0, i, h, _, _ => absurd h (by omega)
  | I + 1, i, h, x, hx => by
    rw [keysTo]
    by_cases e : i = I
    · subst e; exact List.mem_append_right _ hx
    · exact List.mem_append_left _ (keys_part s n I i (by omega) x hx)
theorem nodes_mem (s : Dig.Txt) (j : Nat) : ∀ (M m : Nat), m < M → ofT (Dig.nodeT (Dig.tree s j (2 * m)) (Dig.tree s j (2 * m + 1))) ∈ nodesTo s j M
  | 0, m, h => absurd h (by omega)
  | M + 1, m, h => by
    rw [nodesTo]
    by_cases e : m = M
    · subst e; exact List.mem_append_right _ (List.mem_singleton.2 rfl)
    · exact List.mem_append_left _ (nodes_mem s j M m (by omega))
theorem levels_mem (s : Dig.Txt) (h : Nat) : ∀ (J j : Nat), j < J → ∀ x ∈ nodesTo s j (2 ^ (h - 1 - j)), x ∈ levelsTo s h J
  | 0, j, hj, _, _ => absurd hj (by omega)
  | J + 1, j, hj, x, hx => by
    rw [levelsTo]
    by_cases e : j = J
    · subst e; exact List.mem_append_right _ hx
    · exact List.mem_append_left _ (levels_mem s h J j (by omega) x hx)
section
variable {s : Dig.Txt} {h n : Nat}
theorem made_chain {i k j : Nat} (hi : i < 2 ^ h) (hk : k < 18) (hj : j ≤ n) : ofT (Dig.chain (Dig.start0 s i k) j) ∈ madeL s h n :=
  List.mem_append_left _ (keys_part s n _ i hi _ (List.mem_append_left _ (part_chain s i n j hj 18 k hk)))
theorem made_key {i : Nat} (hi : i < 2 ^ h) : ofT (Dig.keyT s i) ∈ madeL s h n :=
  List.mem_append_left _ (keys_part s n _ i hi _ (List.mem_append_right _ (List.mem_singleton.2 rfl)))
theorem made_node {j m : Nat} (hj : j < h) (hm : m < 2 ^ (h - 1 - j)) : ofT (Dig.nodeT (Dig.tree s j (2 * m)) (Dig.tree s j (2 * m + 1))) ∈ madeL s h n :=
  List.mem_append_right _ (levels_mem s h h j hj _ (nodes_mem s j _ m hm))
end
theorem chk_mem (l : List ByteArray) (m : Dig.Txt) (j : Nat) : ∀ (K k : Nat), k < K → j ≤ 15 - dAt m k → ofT (Dig.chain (tx (l.getD k ByteArray.empty)) j) ∈ chkTo l m K
  | 0, k, h, _ => absurd h (by omega)
  | K + 1, k, h, hj => by
    rw [chkTo]
    by_cases e : k = K
    · subst e; exact List.mem_append_right _ (mem_chained _ _ _ (by omega))
    · exact List.mem_append_left _ (chk_mem l m j K k (by omega) hj)
theorem checked_chain {m : Dig.Txt} {i : Nat} {l1 l2 : List ByteArray} {k j : Nat} (hk : k < 18) (hj : j ≤ 15 - dAt m k) : ofT (Dig.chain (tx (l1.getD k ByteArray.empty)) j) ∈ checkedL m i l1 l2 :=
  List.mem_append_left _ (List.mem_append_left _ (chk_mem l1 m j 18 k hk hj))
theorem checked_key {m : Dig.Txt} {i : Nat} {l1 l2 : List ByteArray} : ofT (Dig.joined ((endsL l1 m).map tx)) ∈ checkedL m i l1 l2 :=
  List.mem_append_left _ (List.mem_append_right _ (List.mem_singleton.2 rfl))
theorem checked_climb {m : Dig.Txt} {i : Nat} {l1 l2 : List ByteArray} : ∀ x ∈ Dig.climbT (Dig.lst ((endsL l1 m).map tx)) i (l2.map tx), ofT x ∈ checkedL m i l1 l2 :=
  fun x hx => List.mem_append_right _ (List.mem_map.2 ⟨x, hx, rfl⟩)
theorem endsL_tx_len (l : List ByteArray) (m : Dig.Txt) : ((endsL l m).map tx).length = 18 := by rw [List.length_map, endsL_len]
theorem ends_at (l : List ByteArray) (m : Dig.Txt) (s : Dig.Txt) (i : Nat) (h : (endsL l m).map tx = Dig.endsOf s i) (k : Nat) (hk : k < 18) :
    Dig.chain (tx (l.getD k ByteArray.empty)) (15 - dAt m k) = Dig.chain (Dig.start0 s i k) 15 := by
  have h2 := congrArg (fun L : List Dig.Txt => L.getD k []) h
  simp only [List.getD_eq_getElem?_getD] at h2
  rw [← endsTo_all, endsTo, List.map_map, List.getElem?_map, List.getElem?_range hk, Dig.endsOf, List.getElem?_map, List.getElem?_range hk] at h2
  simp only [Option.map_some, Option.getD_some, Function.comp] at h2
  unfold endAt at h2
  rwa [tx_ofT] at h2
theorem sound {s : Dig.Txt} {h n : Nat} {m : Dig.Txt} {i : Nat} {l1 l2 : List ByteArray} (hT : Dig.One (Txts (madeL s h n ++ checkedL m i l1 l2)))
    (hi : i < 2 ^ l2.length) (hc : Dig.climb (Dig.lst ((endsL l1 m).map tx)) i (l2.map tx) = Dig.tree s h 0) :
    l2.length = h ∧ (endsL l1 m).map tx = Dig.endsOf s i ∧ l2 = pathL s i h := by
  have hc2 : Dig.climb (Dig.sum (Dig.joined ((endsL l1 m).map tx))) i (l2.map tx) = Dig.tree s h 0 := hc
  obtain ⟨e1, e2, e3, e4⟩ := Dig.climb_one hT (secret := s) (h := h) (fun i hi => List.mem_append_left _ (made_key hi)) (fun j m hj hm => List.mem_append_left _ (made_node hj hm)) (endsL_tx_len l1 m) (List.mem_append_right _ checked_key) i
    (l2.map tx).length (l2.map tx) h 0 rfl (Nat.le_refl _) (Nat.two_pow_pos _) (fun x hx => List.mem_append_right _ (checked_climb x hx)) hc2
  rw [List.length_map] at e1
  rw [e1] at hi
  rw [Nat.zero_mul, Nat.zero_add, Nat.mod_eq_of_lt hi] at e2 e4
  refine ⟨e1, e2, ?_⟩
  have := congrArg (List.map ofT) e4
  rw [List.map_map] at this
  have e5 : List.map (ofT ∘ tx) l2 = l2 := by
    rw [show (ofT ∘ tx : ByteArray → ByteArray) = id from funext fun b => ofT_tx b, List.map_id]
  rw [e5] at this
  rw [this]
  unfold Dig.pathOf pathL
  rw [List.map_map]; rfl
theorem sound_sig {s : Dig.Txt} {h : Nat} {m : Dig.Txt} {i : Nat} {l1 l2 : List ByteArray} (hT : Dig.One (Txts (madeL s h 15 ++ checkedL m i l1 l2))) (h1 : l1.length = 18)
    (hi : i < 2 ^ l2.length) (hc : Dig.climb (Dig.lst ((endsL l1 m).map tx)) i (l2.map tx) = Dig.tree s h 0) : l2.length = h ∧ l1 = sigL s i m ∧ l2 = pathL s i h := by
  obtain ⟨e1, e2, e3⟩ := sound hT hi hc
  refine ⟨e1, ?_, e3⟩
  have hih : i < 2 ^ h := by rw [← e1]; exact hi
  refine List.ext_getElem (by rw [h1, sigL_len]) fun k hk hk2 => ?_
  have hk18 : k < 18 := by omega
  have hd := dAt_le m k
  have h5 := ends_at l1 m s i e2 k hk18
  have h6 : Dig.chain (tx (l1.getD k ByteArray.empty)) (15 - dAt m k) = Dig.chain (Dig.start0 s i k) (dAt m k + (15 - dAt m k)) := by rw [h5]; congr 1; omega
  have h7 := Dig.chain_one hT (15 - dAt m k) (fun j hj => List.mem_append_right _ (checked_chain hk18 hj)) (fun j hj => List.mem_append_left _ (made_chain hih hk18 (by omega))) h6
  have h8 : l1.getD k ByteArray.empty = sigAt s i m k := by
    have := congrArg ofT h7
    rw [ofT_tx] at this
    rw [this]; rfl
  have h9 : (sigL s i m).getD k ByteArray.empty = sigAt s i m k := sig_get s i m k hk18
  rw [List.getD_eq_getElem?_getD, List.getElem?_eq_getElem hk, Option.getD_some] at h8
  rw [List.getD_eq_getElem?_getD, List.getElem?_eq_getElem hk2, Option.getD_some] at h9
  rw [h8, h9]
end Go.Proofs.YteleheamnighkaaDoor
end
section
set_option linter.unusedVariables false
set_option linter.unusedSimpArgs false
namespace Go.Proofs.YteleheamnighkaaDoor
open Go.RowKit Go.DoorKit Go.Proofs.YteleheamnighkaaDoorW.PrintWords
namespace Pure
theorem short2 (a b : ByteArray) : planispherelaw02_short.f [a, b] = some (BaseFacts.shortT [a, b]) := if_pos (show (2 : Nat) ≤ 9223372036854775807 by decide)
theorem shortT_out {l : List ByteArray} (h : BaseFacts.shortT l = true) : ∀ x ∈ l, x.size ≤ 300 := by
  intro x hx
  unfold BaseFacts.shortT at h
  exact of_decide_eq_true (List.all_eq_true.1 h x hx)
theorem tmod3 (a : Int) (h : 0 ≤ a ∧ a ≤ 255) : ∃ n : Nat, n ≤ 2 ∧ Int.tmod (wrap64 a) 3 = (n : Int) := by
  obtain ⟨m, rfl⟩ := Int.eq_ofNat_of_zero_le h.1
  refine ⟨m % 3, by omega, ?_⟩
  have : wrap64 (m : Int) = (m : Int) := by unfold wrap64; omega
  rw [this, show (3 : Int) = ((3 : Nat) : Int) from rfl, BaseFacts.tmod_nat]
theorem u8_out {a : Int} (w : (Lit.int .u8 a).wf = true) : 0 ≤ a ∧ a ≤ 255 := by simpa [Lit.wf, IntKind.min, IntKind.max, IntKind.signed, IntKind.bits] using w
theorem pub_f (a0 : ByteArray) (n : Nat) (hs : a0.size ≤ 300) (hn : n ≤ 8) : seal_Public.f a0 n = some (ofT (Dig.tree (tx a0) n 0), 0) := by
  have h1 : seal_Public.f a0 n = some (publicR (tx a0) n) := if_pos (Nat.le_trans hs (by decide))
  rw [h1]
  unfold publicR
  rw [if_neg (by omega), Int.toNat_natCast]
theorem sign_f (a0 a3 : ByteArray) (a1 a2 : Int) (hs : a0.size ≤ 300) (hm : a3.size ≤ 300) : seal_Sign.f a0 a1 a2 a3 = some (signR (tx a0) a1 a2 (tx a3)) :=
  if_pos ⟨Nat.le_trans hs (by decide), Nat.le_trans hm (by decide)⟩
theorem ver_f (a0 a1 : ByteArray) (i : Int) (l1 l2 : List ByteArray) (h : verIn a1 l1 l2) : seal_Verify.f a0 a1 i l1 l2 = some (verR a0 a1 i l1 l2) := if_pos h
theorem same_f (i : Int) (l1 l2 : List ByteArray) (i' : Int) (m1 m2 : List ByteArray) (h1 : l1.length ≤ 1000) (h2 : l2.length ≤ 1000) : planisphereref02_Same.f i l1 l2 i' m1 m2 = some (sameS i l1 l2 i' m1 m2) :=
  if_pos ⟨Nat.le_trans h1 (by decide), Nat.le_trans h2 (by decide)⟩
theorem made_f (a0 : ByteArray) (n : Nat) (k : Nat) (hs : a0.size ≤ 300) (hn : n ≤ 3) (h1 : 15 ≤ k) (h2 : k ≤ 100) : planisphereref02_Made.f a0 n k = some (madeL (tx a0) n k) := by
  unfold planisphereref02_Made.f
  rw [if_pos ⟨Nat.le_trans hs (by decide), by omega, by omega, by omega, by omega⟩, Int.toNat_natCast, Int.toNat_natCast]
theorem made15 (a0 : ByteArray) (n : Nat) (hs : a0.size ≤ 300) (hn : n ≤ 3) : planisphereref02_Made.f a0 n 15 = some (madeL (tx a0) n 15) := made_f a0 n 15 hs hn (by decide) (by decide)
theorem chk_f (a0 : ByteArray) (i : Nat) (l1 l2 : List ByteArray) (hm : a0.size ≤ 300) (hi : i ≤ 4000) (h1 : l1.length = 18) (hz1 : ∀ s ∈ l1, s.size ≤ 100) (hz2 : ∀ s ∈ l2, s.size ≤ 100) (hl2 : l2.length ≤ 100) :
    planisphereref02_Checked.f a0 i l1 l2 = some (checkedL (tx a0) i l1 l2) := by
  unfold planisphereref02_Checked.f
  rw [if_pos ⟨Nat.le_trans hm (by decide), by omega, by omega, h1, hz1, fun s hs => Nat.le_trans (hz2 s hs) (by decide), hl2⟩, Int.toNat_natCast]
theorem keyPart_small (s : Dig.Txt) (hs : s.length ≤ 300) (n i : Nat) (hi : i ≤ 100) : ∀ x ∈ keyPart s n i, x.size ≤ 140737488355328 := by
  intro x hx
  rcases List.mem_append.1 hx with h | h
  · have : ∀ K, K ≤ 18 → ∀ x ∈ partTo s i n K, x.size ≤ 140737488355328 := by
      intro K
      induction K with
      | zero => intro _ x hx; cases hx
      | succ K ih =>
        intro hK x hx
        rw [partTo] at hx
        rcases List.mem_append.1 hx with h | h
        · exact ih (by omega) x h
        · rcases List.mem_cons.1 h with rfl | h
          · have := startT_need (ofT s) (i := i) (k := K) (by rw [size_ofT]; omega) (by omega) (by omega)
            rwa [tx_ofT] at this
          · unfold chainedB at h
            obtain ⟨j, _, rfl⟩ := List.mem_map.1 h
            rw [size_ofT, chain_len (start_len s i K)]; decide
    exact this 18 (Nat.le_refl _) x h
  · rw [List.mem_singleton.1 h]; exact keyT_size s i
theorem made_small (s : Dig.Txt) (hs : s.length ≤ 300) (h n : Nat) (hh : h ≤ 3) : ∀ x ∈ madeL s h n, x.size ≤ 140737488355328 := by
  intro x hx
  have hp8 : 2 ^ h ≤ 8 := Nat.le_trans (pow_le hh) (by decide)
  rcases List.mem_append.1 hx with hx | hx
  · have : ∀ I, I ≤ 100 → ∀ x ∈ keysTo s n I, x.size ≤ 140737488355328 := by
      intro I
      induction I with
      | zero => intro _ x hx; cases hx
      | succ I ih =>
        intro hI x hx
        rw [keysTo] at hx
        rcases List.mem_append.1 hx with h | h
        · exact ih (by omega) x h
        · exact keyPart_small s hs n I (by omega) x h
    exact this _ (by omega) x hx
  · have : ∀ J, ∀ x ∈ levelsTo s h J, x.size ≤ 140737488355328 := by
      intro J
      induction J with
      | zero => intro x hx; cases hx
      | succ J ih =>
        intro x hx
        rw [levelsTo] at hx
        rcases List.mem_append.1 hx with h1 | h1
        · exact ih x h1
        · have : ∀ M, ∀ x ∈ nodesTo s J M, x.size ≤ 140737488355328 := by
            intro M
            induction M with
            | zero => intro x hx; cases hx
            | succ M ih =>
              intro x hx
              rw [nodesTo] at hx
              rcases List.mem_append.1 hx with h2 | h2
              · exact ih x h2
              · rw [List.mem_singleton.1 h2]
                have := nodeT_size (ofT (Dig.tree s J (2 * M))) (ofT (Dig.tree s J (2 * M + 1))) (by rw [size_ofT, tree_len]; decide) (by rw [size_ofT, tree_len]; decide)
                rwa [tx_ofT, tx_ofT] at this
          exact this _ x h1
    exact this h x hx
theorem made_len (s : Dig.Txt) (h n : Nat) (hh : h ≤ 2) : (madeL s h n).length ≤ 4 * (18 * (n + 2) + 1) + 16 := by
  have hp : 2 ^ h ≤ 4 := Nat.le_trans (pow_le hh) (by decide)
  have h1 := keysTo_len s n (2 ^ h)
  have h2 := levelsTo_len s h (by omega) h (Nat.le_refl _)
  have h3 : 2 ^ h * (18 * (n + 2) + 1) ≤ 4 * (18 * (n + 2) + 1) := Nat.mul_le_mul hp (Nat.le_refl _)
  unfold madeL
  rw [List.length_append, h1]; omega
theorem climbT_small : ∀ (ps : List Dig.Txt) (X : Dig.Txt) (i : Nat), X.length ≤ 100 → (∀ p ∈ ps, p.length ≤ 100) → ∀ x ∈ Dig.climbT X i ps, (ofT x).size ≤ 140737488355328
  | [], _, _, _, _, x, hx => by cases hx
  | p :: ps, X, i, hX, hps, x, hx => by
    rw [Dig.climbT] at hx
    have hp := hps p (List.mem_cons_self)
    rcases List.mem_cons.1 hx with rfl | hx
    · have h1 := nodeT_size (ofT X) (ofT p) (by rw [size_ofT]; omega) (by rw [size_ofT]; omega)
      have h2 := nodeT_size (ofT p) (ofT X) (by rw [size_ofT]; omega) (by rw [size_ofT]; omega)
      rw [tx_ofT, tx_ofT] at h1 h2
      unfold Dig.stepT
      split
      · exact h2
      · exact h1
    · exact climbT_small ps _ _ (by rw [Dig.sum_len]; decide) (fun q hq => hps q (List.mem_cons_of_mem _ hq)) x hx
theorem climbT_len : ∀ (ps : List Dig.Txt) (X : Dig.Txt) (i : Nat), (Dig.climbT X i ps).length = ps.length
  | [], _, _ => rfl
  | p :: ps, X, i => by rw [Dig.climbT, List.length_cons, climbT_len ps, List.length_cons]
theorem checked_len (m : Dig.Txt) (i : Nat) (l1 l2 : List ByteArray) : (checkedL m i l1 l2).length ≤ 289 + l2.length := by
  have := chkTo_len l1 m 18
  unfold checkedL
  rw [List.length_append, List.length_append, List.length_map, climbT_len, List.length_map, List.length_singleton]; omega
theorem checked_small (m : Dig.Txt) (i : Nat) (l1 l2 : List ByteArray) (h1 : l1.length = 18) (hz1 : ∀ s ∈ l1, s.size ≤ 100) (hz2 : ∀ s ∈ l2, s.size ≤ 100) : ∀ x ∈ checkedL m i l1 l2, x.size ≤ 140737488355328 := by
  intro x hx
  unfold checkedL at hx
  rcases List.mem_append.1 hx with hx | hx
  · rcases List.mem_append.1 hx with hx | hx
    · have : ∀ K, K ≤ 18 → ∀ x ∈ chkTo l1 m K, x.size ≤ 140737488355328 := by
        intro K
        induction K with
        | zero => intro _ x hx; cases hx
        | succ K ih =>
          intro hK x hx
          rw [chkTo] at hx
          rcases List.mem_append.1 hx with h | h
          · exact ih (by omega) x h
          · unfold chainedB at h
            obtain ⟨j, _, rfl⟩ := List.mem_map.1 h
            rw [size_ofT]
            exact Nat.le_trans (chain_len' (by rw [tx_len]; exact hz1 _ (getD_mem (by omega)))) (by decide)
      exact this 18 (Nat.le_refl _) x hx
    · rw [List.mem_singleton.1 hx, size_ofT]
      have hE : need (endsL l1 m) ≤ 140737488355328 := by
        refine need_all 100 18 ?_ (by rw [endsL_len]; exact Nat.le_refl _) (by decide)
        intro s hs
        simp only [endsL, List.mem_map] at hs
        obtain ⟨j, _, rfl⟩ := hs
        unfold endAt
        rw [size_ofT]
        exact chain_len' (by rw [tx_len]; exact hz1 _ (getD_mem (by have := j.isLt; omega)))
      exact Nat.le_trans (joined_need _ hE) hE
  · obtain ⟨y, hy, rfl⟩ := List.mem_map.1 hx
    refine climbT_small _ _ _ ?_ ?_ y hy
    · show (Dig.sum _).length ≤ 100
      rw [Dig.sum_len]; decide
    · intro p hp
      obtain ⟨b, hb, rfl⟩ := List.mem_map.1 hp
      rw [tx_len]; exact hz2 b hb
theorem shown_f (L : List ByteArray) (h1 : L.length ≤ 4000) (h2 : ∀ x ∈ L, x.size ≤ 140737488355328) : planisphereref02_Shown.f L = some (shownB L) := if_pos ⟨h1, h2⟩
theorem ver_out {r msg : ByteArray} {i : Int} {l1 l2 : List ByteArray} (h : verR r msg i l1 l2 = true) : ∃ n : Nat, i = (n : Int) ∧ l1.length = 18 ∧ l2.length ≤ 8 ∧ oddB l1 = false ∧ oddB l2 = false ∧ n < 2 ^ l2.length ∧ r = ofT (Dig.climb (Dig.lst ((endsL l1 (tx msg)).map tx)) n (l2.map tx)) := by
  unfold verR at h
  by_cases hk : verOk i l1 l2
  · rw [if_pos hk] at h
    obtain ⟨h1, h2, h3, h4, h5, h6⟩ := hk
    obtain ⟨n, rfl⟩ := Int.eq_ofNat_of_zero_le h5
    rw [Int.toNat_natCast] at h
    unfold climbB at h
    exact ⟨n, rfl, h1, h2, h3, h4, by omega, (toList_eq.1 (beq_iff_eq.1 h)).symm⟩
  · rw [if_neg hk] at h; cases h
end Pure
end Go.Proofs.YteleheamnighkaaDoor
end
section
set_option linter.unusedVariables false
set_option linter.unusedSimpArgs false
namespace Go.Proofs.YteleheamnighkaaDoor
open Go.RowKit Go.DoorKit Go.Proofs.YteleheamnighkaaDoorW.PrintWords
namespace Pure
theorem sound_pure (a0 : ByteArray) (h0 : a0.size ≤ 140737488351232) (a1 : Int) (w1 : (Lit.int .u8 a1).wf = true) (a2 : ByteArray) (h2 : a2.size ≤ 140737488351232)
    (i : Int) (wi : (Lit.int .i64 i).wf = true) (l1 : List ByteArray) (hl1 : l1.length ≤ 9223372036854775807) (l2 : List ByteArray) (hl2 : l2.length ≤ 9223372036854775807) :
    ∃ k, PSSound.planispherelaw02_SealSound.f k a0 a1 a2 i l1 l2 = some true := by
  refine ⟨2, ?_⟩
  obtain ⟨n, hn, en⟩ := tmod3 a1 (u8_out w1)
  unfold PSSound.planispherelaw02_SealSound.f planispherelaw02_head.f
  rw [Option.bind_some, short2, Option.bind_some, en]
  by_cases hsh : BaseFacts.shortT [a0, a2] = true
  · rw [if_pos hsh]
    have hs0 := shortT_out hsh a0 (by simp)
    have hs2 := shortT_out hsh a2 (by simp)
    unfold planisphereref02_Few.f
    rw [Option.bind_some]
    by_cases hf : fewS l1 l2
    · rw [decide_eq_true hf]
      obtain ⟨f1, f2, f3, f4⟩ := hf
      have hvi : verIn a2 l1 l2 := verIn_small hs2 (fun x hx => Nat.le_trans (f3 x hx) (by decide)) (fun x hx => Nat.le_trans (f4 x hx) (by decide)) (by omega) (by omega)
      rw [PSSound.planispherelaw02_SealSound.j0, if_neg (by decide), pub_f a0 n hs0 (by omega), Option.bind_some, if_pos rfl, ver_f _ _ _ _ _ hvi, Option.bind_some]
      by_cases hv : verR (ofT (Dig.tree (tx a0) n 0)) a2 i l1 l2 = true
      · rw [if_pos hv, sign_f a0 a2 n i hs0 hs2, Option.bind_some]
        obtain ⟨m, rfl, v1, v2, v3, v4, v5, v6⟩ := ver_out hv
        have hp8 : 2 ^ l2.length ≤ 256 := Nat.le_trans (pow_le v2) (by decide)
        have key : ∀ t, (shownB (madeL (tx a0) n 15 ++ checkedL (tx a2) m l1 l2) = false → t = true) → PSSound.planispherelaw02_SealSound.j1 1 a0 a2 true n t m l1 l2 = some true := by
          intro t ht
          rw [PSSound.planispherelaw02_SealSound.j1]
          by_cases hb : t = true
          · rw [if_pos hb]
          · rw [if_neg hb, if_pos rfl, made15 a0 n hs0 (by omega), Option.bind_some, chk_f a2 m l1 l2 hs2 (by omega) v1 f3 f4 (by omega), Option.bind_some]
            have g1 := made_len (tx a0) n 15 hn
            have g2 := checked_len (tx a2) m l1 l2
            rw [if_pos (by omega), shown_f _ (by rw [List.length_append]; omega) ?_, Option.bind_some]
            · cases hsb : shownB (madeL (tx a0) n 15 ++ checkedL (tx a2) m l1 l2) with
              | true => rfl
              | false => exact absurd (ht hsb) hb
            · intro x hx
              rcases List.mem_append.1 hx with hx | hx
              · exact made_small (tx a0) (by rw [tx_len]; exact hs0) n 15 (by omega) x hx
              · exact checked_small (tx a2) m l1 l2 v1 f3 f4 x hx
        have hso : shownB (madeL (tx a0) n 15 ++ checkedL (tx a2) m l1 l2) = false → l2.length = n ∧ l1 = sigL (tx a0) m (tx a2) ∧ l2 = pathL (tx a0) m n := fun hsb =>
          sound_sig (one_of_shown hsb) v1 v5 (ofT_inj v6).symm
        by_cases hb : signBad n m
        · have e : signR (tx a0) n m (tx a2) = (0, [], [], 1) := if_pos hb
          rw [e, if_neg (by decide)]
          refine key false fun hsb => ?_
          obtain ⟨e1, _, _⟩ := hso hsb
          rw [e1] at v5
          exfalso
          unfold signBad at hb
          have hpow : (2 : Int) ^ n = ((2 ^ n : Nat) : Int) := by simp
          rw [Int.toNat_natCast, hpow] at hb
          generalize 2 ^ n = P at *
          omega
        · have e : signR (tx a0) n m (tx a2) = ((m : Int), sigL (tx a0) m (tx a2), pathL (tx a0) m n, 0) := by
            unfold signR
            rw [if_neg hb, Int.toNat_natCast, Int.toNat_natCast]
          rw [e, if_pos rfl, same_f _ _ _ _ _ _ (by rw [sigL_len]; decide) (by rw [pathL_len]; omega), Option.bind_some]
          refine key _ fun hsb => ?_
          obtain ⟨_, e2, e3⟩ := hso hsb
          exact decide_eq_true ⟨rfl, e2.symm, e3.symm⟩
      · rw [if_neg hv]
    · rw [decide_eq_false hf, PSSound.planispherelaw02_SealSound.j0]; rfl
  · rw [if_neg hsh, PSSound.planispherelaw02_SealSound.j0, if_pos rfl]
end Pure
end Go.Proofs.YteleheamnighkaaDoor
end
section
set_option linter.unusedVariables false
namespace Go.Proofs.YteleheamnighkaaDoor
open Go.ChangeShapes Go.WideShapes Go.ChangeAt Go.RowKit Go.Proofs.YteleheamnighkaaDoorW.PrintWords
open Go.ChangeMaps (open_string shut_string)
namespace RK
def laidL : List (String × DataW Unit) := [("math/bits.deBruijn32tab", Rows.laid_math_bits_deBruijn32tab), ("math/bits.deBruijn64tab", Rows.laid_math_bits_deBruijn64tab), ("internal/strconv.uint64pow10", Rows.laid_internal_strconv_uint64pow10), ("unicode/utf8.acceptRanges", Rows.laid_unicode_utf8_acceptRanges), ("unicode/utf8.first", Rows.laid_unicode_utf8_first)]
theorem pow_data : Rows.laid_internal_strconv_uint64pow10 (H := Unit) = Lib.tabData .u64 Lib.pow10Tab := by kernel_rfl
theorem tabIs_of_reads {P : Program} {W : World} {name : String} {k : IntKind} {zs : List Int} {g : Nat} {t e : TypeId} {n : Nat}
    (hg : P.globalNamed name = some g) (hty : (P.globals[g]?).map (·.type) = some t) (ht : P.underlying t = some (.array n e)) (he : P.underlying e = some (.int k)) (hce : P.cellsOf e = 1) (hct : P.cellsOf t = n)
    (h : Lib.VarReads P W name (Lib.tabData k zs)) : Lib.TabIs P W name k zs := by
  obtain ⟨g', t', cs, fuel, p, hg', ht', hvar, hd⟩ := h
  obtain rfl := Option.some.inj (hg.symm.trans hg')
  obtain rfl := Option.some.inj (hty.symm.trans ht')
  unfold Lib.TabIs
  rw [hvar, ← Lib.cells_of_tab ht he hce hct hd]
theorem glob {W : World} (h : laidMetH Tryd.prog laidL W) : Glob W := by
  rw [MakeChecks.laidMetH_plain _ _ _ (by kernel_rfl)] at h
  have hr := Lib.laidMet.reads h (n := "internal/strconv.uint64pow10") (d := Rows.laid_internal_strconv_uint64pow10) (by simp [laidL])
  rw [pow_data] at hr
  exact tabIs_of_reads (g := 0) (t := 118) (e := 54) (n := 20) (by kernel_rfl) (by kernel_rfl) Tryd.underlying118 Tryd.underlying54 (by kernel_rfl) (by kernel_rfl) hr
theorem own : ownKnob Tryd.prog.godebug = none := by kernel_rfl
theorem laidOut : laidOutB Tryd.prog = true := by kernel_rfl
theorem sized {H : Type} {ts : List TypeId} {ds : List (DataW H)} {s : ByteArray} (h : (DataW.weightsEach Tryd.prog ts ds).all (· ≤ reachBytes) = true) (j t : Nat) (ht : ts[j]? = some t) (hd : ds[j]? = some (.lit (.string s.data.toList))) : s.size ≤ 140737488351232 := by
  have z := sized_string h ht hd
  rw [Array.length_toList] at z
  exact z
variable {H : Type} {enc : TypeId × Value → H} {W : World} {base : Nat} {sp : Nat → Bool} {held : Bool}
theorem kd_of_cells {A : Addr} {len : Nat} {ss : List ByteArray} (hl : len ≤ ss.length) (hm : len ≤ maxLen) (hc : ∀ i, i < ss.length → W.cell? (A.add i) = some (.string (ss.getD i ByteArray.empty))) :
    Kd.C Kd.string W (some A) (ss.take len).length (ss.take len) := by
  have hle : (ss.take len).length = len := by simp; omega
  refine Kd.C_of_reads (d := ByteArray.empty) (h1 := fun _ => rfl) ?_
  refine ⟨rfl, by rw [hle]; exact hm, fun hn => ⟨A, rfl, fun j hj => ?_⟩⟩
  rw [hle] at hj
  rw [hc j (by omega)]
  simp [List.getD, hj]
end RK
end Go.Proofs.YteleheamnighkaaDoor
end
section
set_option linter.unusedVariables false
namespace Go.Proofs.YteleheamnighkaaDoor
open Go.ChangeShapes Go.WideShapes Go.ChangeAt Go.RowKit Go.Proofs.YteleheamnighkaaDoorW.PrintWords
namespace RK
variable {H : Type} {enc : TypeId × Value → H} {W : World} {base : Nat} {sp : Nat → Bool} {held : Bool}
theorem list_of {fuel : Nat} {v : Value} {y : DataW H × List MemPlace} (hf : DataW.trod enc Tryd.prog W 0 sp held fuel 22 [v] = some y) :
    ∃ (A : Option Addr) (c : Nat) (l : List ByteArray), v = .slice A l.length c ∧ Kd.C Kd.string W A l.length l ∧ l.length ≤ c ∧ c ≤ maxLen := by
  rcases open_strings Tryd.underlying22 Tryd.underlying9 (by kernel_rfl) hf with ⟨hcs, _⟩ | ⟨x, len', cap', ss, hcs, _, hl, hm, hlen, _, hcell, hsz⟩
  · obtain rfl : v = .slice none 0 0 := by injection hcs
    exact ⟨none, 0, [], rfl, Kd.C_of_reads (d := ByteArray.empty) (h1 := fun _ => rfl) ⟨rfl, Nat.zero_le _, fun hn => absurd hn (by simp)⟩, Nat.le_refl _, Nat.zero_le _⟩
  · obtain rfl : v = .slice (some x) len' cap' := by injection hcs
    have hss : len' ≤ ss.length := by rw [hlen]; split <;> omega
    have hle : (ss.take len').length = len' := by simp; omega
    exact ⟨some x, cap', ss.take len', by rw [hle], kd_of_cells hss (Nat.le_trans hl hm) hcell, by rw [hle]; exact hl, hm⟩
set_option maxRecDepth 100000 in
theorem open_seal {v : Value} {d : DataW H} {p : List MemPlace} (hv : Value.okWide Tryd.prog W .any base 35 v) (h : DataW.Trod enc Tryd.prog W 0 sp held 35 v d p) :
    ∃ (n : Int) (A : Option Addr) (c : Nat) (l : List ByteArray) (B : Option Addr) (e : Nat) (m : List ByteArray), v = .agg #[.int .i64 n, .slice A l.length c, .slice B m.length e] ∧ (Lit.int .i64 n).wf = true ∧
      Kd.C Kd.string W A l.length l ∧ l.length ≤ c ∧ c ≤ maxLen ∧ Kd.C Kd.string W B m.length m ∧ m.length ≤ e ∧ e ≤ maxLen := by
  obtain ⟨v0, v1, v2, y0, y1, y2, n, rfl, _, _, h0, h1, h2⟩ := Joins.open_agg3 Tryd.underlying35 (by kernel_rfl) (by kernel_rfl) hv h
  obtain ⟨z, hz, _, hw⟩ := DataW.trod_int Tryd.underlying3 h0
  obtain rfl : v0 = .int .i64 z := by injection hz
  obtain ⟨A, c, l, rfl, a1, a2, a3⟩ := list_of h1
  obtain ⟨B, e, m, rfl, b1, b2, b3⟩ := list_of h2
  exact ⟨z, A, c, l, B, e, m, rfl, hw, a1, a2, a3, b1, b2, b3⟩
end RK
end Go.Proofs.YteleheamnighkaaDoor
end
