/-
What RowSMatches leans on, part 4: the texts of this seat, merged.
-/
import Derived.Test.YteleheamnighkaaDoorMSMatchesc
import Derived.RangeFuncBox
import Derived.Shelf.Abstract
import Derived.Shelf.RegionOpen
import Derived.WalkKit
import Derived.OwnWalkIn
import Derived.TacticsInMore
import Derived.LoopNIn
import Derived.LoopIn
import Derived.Lib.Hide
import Derived.Maps.AppendAt
import Derived.Test.YteleheamnighkaaDoorProg
import Derived.Below
import Derived.Deep.Draws
import Derived.Deep.AppendLies
import Derived.OwnWalk
import Derived.Laws.BytesArg
import Derived.Laws.MakeOwn
import Derived.Laws.OwnMore
import Derived.Deep.OwnRows
import Derived.Tactics
import Derived.Lib.ConvBytes
import Derived.Laws.Slices
import Derived.KernelRfl
import Derived.RowKit3
import Derived.Deep.LoopGhost
import Derived.Deep.QuietTactic
import Derived.BigQuiet
import Derived.WideLaws
import Derived.Deep.DeepCutAuto
import Derived.Deep.CutBlock
import Derived.Deep.RegionHeld3
import Derived.Laws.Rows
import Derived.Lib.AppendStr
import Derived.ArgAppend
import Derived.Laws.IdiomCopy
import Derived.OrdersHeld
import Derived.Laws.BitsLemmas
import Derived.RowKit
section
namespace Go.Proofs.YteleheamnighkaaDoor.PCb
open Go.RowKit Go.Proofs.YteleheamnighkaaDoorW.PrintWords Go.Proofs.YteleheamnighkaaDoorW.PrintLast Go.Proofs.YteleheamnighkaaDoorW.PrintMore
attribute [local go_sem] max2_int min2_int max_two min_two max_three min_three max_four min_four   -- for this text's walks alone
set_option linter.unusedVariables false
set_option linter.unusedSimpArgs false
def planisphereref02_Digits.l0 : Nat → ByteArray → List Int → Int → Int → Option (List Int)
  | 0, _, _, _, _ => none
  | k + 1, x3, x4, x5, x6 => if x6 < (x3.size : Int) then (if 0 ≤ x6 then ((planisphereref01_Digit.f (bt x3 x6)).bind fun t102 => (if x4.length < 17592186044416 then (planisphereref02_Digits.l0 k x3 (x4 ++ [t102]) (wrap64 ((wrap64 (x5 + 15)) - t102)) (wrap64 (x6 + 1))) else (none))) else (none)) else ((some (([wrap64 (Int.tdiv x5 16), Int.tmod x5 16] : List Int) : List Int)).bind fun y106 => (if x4.length + y106.length < 17592186044416 then (some (x4 ++ y106)) else (none)))
def planisphereref02_Digits.f (k : Nat) (a0 : ByteArray) : Option (List Int) := (planisphereref01_Sum.f a0).bind fun t101 => (planisphereref02_Digits.l0 k t101 ([] : List Int) 0 0)
set_option maxHeartbeats 8000000 in
set_option maxRecDepth 100000 in
theorem planisphereref02_Digits.calls (k : Nat) (a0 : ByteArray) (r : List Int) (w : World) (h : planisphereref02_Digits.f k a0 = some r) :
    Calls Tryd.prog 56 #[.string a0] w fun e w' => ∃ v0_ : Value, e = .returned (v0_) ∧ Kd.R (Kd.int .i64) 3 w' w.heap.size (fun _ => True) v0_ r ∧ Below w.heap.size w w' := by
  have HB := Aside0.mk (Below.refl w.heap.size w)
  have H : ((planisphereref01_Sum.f a0).bind fun t101 => (planisphereref02_Digits.l0 k t101 ([] : List Int) 0 0)) = some r := h
  clear h
  replace H := Option.bind_eq_some_iff.mp H
  obtain ⟨t101, A20, H⟩ := H
  replace H : (planisphereref02_Digits.l0 k t101 ([] : List Int) 0 0) = some r := H
  have A2 := Aside0.mk A20
  clear A20
  have H' := Aside0.mk H
  clear H
  go_enter Tryd.func56, Tryd.ntmps56
  go_wp2_with (first | ((with_reducible refine gate_callee (f := 18) rfl ?_); refine goesL_ (some 9) rfl rfl Tryd.func18 (by kernel_rfl) rfl #[.string a0] rfl (by (try simp only [List.map_toArray, List.map_cons, List.map_nil]); first | done | rfl | (simp only [List.length_drop, List.length_take]; rfl)) ?_; (with_reducible refine (planisphereref01_Sum.callsB a0 t101 _ A2.out).mono ?_); clear A2; rintro e w3 ⟨rfl, hb⟩; refine ⟨_, rfl, ?_⟩; have n0_ := Aside0.mk (below_step (by repeat (first | (with_reducible first | exact HB.out | apply below_alloc | apply pw_below_drewN | apply below_drew1) | exact HB.out)) hb); clear HB; have HB := n0_; clear n0_; (try clear hb); (try clear hb2); (try clear hk); (try clear hi)))
  go_loopg [4, 5, 6] k (fun kq v4 v5 v6 w' => ∃ (x4_1 : List Int) (x5_1 : Int) (x6_1 : Int), v5 = .int .i64 x5_1 ∧ v6 = .int .i64 x6_1 ∧ Aside0 (planisphereref02_Digits.l0 kq t101 x4_1 x5_1 x6_1 = some r) ∧ Aside0 (kq ≤ k) ∧ Aside0 (Kd.R (Kd.int .i64) 3 w' w.heap.size (fun _ => True) v4 x4_1) ∧ Aside0 (Below w.heap.size w w'))
  case atStart => exact ⟨(([] : List Int)), (0), (0), (by first | rfl | (simp; done) | (simp [*]; done)), (by first | rfl | (simp; done) | (simp [*]; done)), H', ⟨Nat.le_refl _⟩, ⟨by first | exact Kd.R_nil _ _ _ _ _ | exact Kd.N_nil _ _ _ _ _ | exact Kd.V_nil _ _ _ _ _ | exact Kd.Q_nil _ _ _ _ _ | exact Kd.S_nil _ _ _ _ _⟩, ⟨by repeat (first | (with_reducible first | exact HB.out | apply below_alloc | apply pw_below_drewN | apply below_drew1) | exact HB.out)⟩⟩
  case round =>
    clear H'
    try clear c1
    try clear p2
    obtain ⟨x4_1, x5_1, x6_1, rfl, rfl, HA, HK1, HO_4, HB⟩ := hrel
    cases gk with
    | zero => exact absurd HA.out (by simp [planisphereref02_Digits.l0])
    | succ k1 =>
      have H := HA.out
      clear HA
      simp only [planisphereref02_Digits.l0] at H
      by_cases c4 : x6_1 < (t101.size : Int)
      · rw [if_pos c4] at H
        have c4b0 : decide (x6_1 < (t101.size : Int)) = true := decide_eq_true c4
        clear c4
        by_cases c5 : 0 ≤ x6_1
        · rw [if_pos c5] at H
          have c5b0 : decide (0 ≤ x6_1) = true := decide_eq_true c5
          clear c5
          replace H := Option.bind_eq_some_iff.mp H
          obtain ⟨t102, A70, H⟩ := H
          replace H : (if x4_1.length < 17592186044416 then (planisphereref02_Digits.l0 k1 t101 (x4_1 ++ [t102]) (wrap64 ((wrap64 (x5_1 + 15)) - t102)) (wrap64 (x6_1 + 1))) else (none)) = some r := H
          have A7 := Aside0.mk A70
          clear A70
          by_cases c8 : x4_1.length < 17592186044416
          · rw [if_pos c8] at H
            have LMc8 := Aside0.mk c8
            clear c8
            obtain ⟨y103, hy103⟩ : ∃ y_ : List Int, y_ = (x4_1 ++ [t102]) := ⟨_, rfl⟩
            replace H : (planisphereref02_Digits.l0 k1 t101 y103 (wrap64 ((wrap64 (x5_1 + 15)) - t102)) (wrap64 (x6_1 + 1))) = some r := by first | (rw [hy103]; with_reducible exact H) | (have H2_ := (Option.bind_some _ _).symm.trans H; rw [hy103]; with_reducible exact H2_) | (have H2_ := (Option.bind_some _ _).symm.trans H; with_reducible exact H2_) | with_reducible exact H | (rw [hy103]; exact H) | exact H
            have Ny103 := Aside0.mk hy103
            clear hy103
            have H' := Aside0.mk H
            clear H
            have p6 : 0 ≤ (x6_1 : Int) := of_decide_eq_true (by first | (with_reducible assumption) | assumption)
            have q6 : x6_1 < (t101.size : Int) := of_decide_eq_true (by first | (with_reducible assumption) | assumption)
            have hx6 := bt_at t101 x6_1
            replace p6 := eq_true p6
            replace q6 := eq_true q6
            go_wp2_with (first | ((with_reducible refine gate_callee (f := 46) rfl ?_); refine goesL_ (some 19) rfl rfl Tryd.func46 (by kernel_rfl) rfl #[.int .u8 (bt t101 x6_1)] rfl (by (try simp only [List.map_toArray, List.map_cons, List.map_nil]); first | done | rfl | (simp only [List.length_drop, List.length_take]; rfl)) ?_; (with_reducible refine (planisphereref01_Digit.calls (bt t101 x6_1) t102 _ A7.out).mono ?_); clear A7; rintro e w9 ⟨rfl, hb⟩; refine ⟨_, rfl, ?_⟩; have n0_ := Aside0.mk (Kd.R_below (by (with_reducible repeat (first | apply Kd.R_alloc | apply Kd.R_drewN | apply Kd.R_drew)); exact HO_4.out) hb); have n1_ := Aside0.mk (below_step (by repeat (first | (with_reducible first | exact HB.out | apply below_alloc | apply pw_below_drewN | apply below_drew1) | exact HB.out)) hb); clear HO_4; clear HB; have HO_4 := n0_; have HB := n1_; clear n0_ n1_; (try clear hb); (try clear hb2); (try clear hk); (try clear hi)) | ((with_reducible refine gate_builtin (b := .append) (xs := #[.tmp 20, .tmp 22]) rfl ?_); at_builtin; refine Kd.R_append (Kd.int .i64) (w0 := w) w.heap.size rfl (.tmp 20) (.tmp 22) 81 3 (.int .i64 0) 8 rfl Tryd.underlying81 info3 rfl (by decide) (by omega) u4 x4_1 t102 [.int .i64 t102] (fun _ => True) (fun _ => False) rfl rfl ?aP (fun _ hk => hk.elim) ?aF ?aO ?aB ?aS ?aL ?_; (case aP => exact rfl); (case aB => exact (by repeat (first | (with_reducible first | exact HB.out | apply below_alloc | apply pw_below_drewN | apply below_drew1) | exact HB.out))); (case aF => exact (fun _ _ => trivial)); (case aO => exact (by (with_reducible repeat (first | apply Kd.R_alloc | apply Kd.R_drewN | apply Kd.R_drew)); exact HO_4.out)); (case aS => exact (below_size (by repeat (first | (with_reducible first | exact HB.out | apply below_alloc | apply pw_below_drewN | apply below_drew1) | exact HB.out)))); (case aL => have := LMc8.out; omega); intro v104 w10 ho hb hg hat; rw [← Ny103.out] at ho; have n0_ := Aside0.mk (hb); have n1_ := Aside0.mk (ho); clear HB; clear HO_4; have HB := n0_; have HO105 := n1_; clear n0_ n1_; clear ho hb hg hat))
            go_roundg k1
            case measure => have := HK1.out; omega
            case rel => exact ⟨(y103), (wrap64 ((wrap64 (x5_1 + 15)) - t102)), (wrap64 (x6_1 + 1)), (by first | rfl | (simp; done) | (simp [*]; done)), (by first | rfl | (simp; done) | (simp [*]; done)), H', ⟨by have := HK1.out; omega⟩, ⟨by (with_reducible repeat (first | apply Kd.R_alloc | apply Kd.R_drewN | apply Kd.R_drew)); exact HO105.out⟩, ⟨by repeat (first | (with_reducible first | exact HB.out | apply below_alloc | apply pw_below_drewN | apply below_drew1) | exact HB.out)⟩⟩
          · rw [if_neg c8] at H
            exact absurd H (by simp)
        · rw [if_neg c5] at H
          exact absurd H (by simp)
      · rw [if_neg c4] at H
        have c4b0 : decide (x6_1 < (t101.size : Int)) = false := decide_eq_false c4
        clear c4
        obtain ⟨y106, hy106⟩ : ∃ y_ : List Int, y_ = (([wrap64 (Int.tdiv x5_1 16), Int.tmod x5_1 16] : List Int)) := ⟨_, rfl⟩
        replace H : (if x4_1.length + y106.length < 17592186044416 then (some (x4_1 ++ y106)) else (none)) = some r := by first | (rw [hy106]; with_reducible exact H) | (have H2_ := (Option.bind_some _ _).symm.trans H; rw [hy106]; with_reducible exact H2_) | (have H2_ := (Option.bind_some _ _).symm.trans H; with_reducible exact H2_) | with_reducible exact H | (rw [hy106]; exact H) | exact H
        have Ny106 := Aside0.mk hy106
        clear hy106
        by_cases c11 : x4_1.length + y106.length < 17592186044416
        · rw [if_pos c11] at H
          have LMc11 := Aside0.mk c11
          clear c11
          obtain ⟨y109, hy109⟩ : ∃ y_ : List Int, y_ = (x4_1 ++ y106) := ⟨_, rfl⟩
          replace H : (some y109) = some r := by first | (rw [hy109]; with_reducible exact H) | (have H2_ := (Option.bind_some _ _).symm.trans H; rw [hy109]; with_reducible exact H2_) | (have H2_ := (Option.bind_some _ _).symm.trans H; with_reducible exact H2_) | with_reducible exact H | (rw [hy109]; exact H) | exact H
          have Ny109 := Aside0.mk hy109
          clear hy109
          obtain rfl := Option.some.inj H
          go_wp2_with (first | ((with_reducible refine gate_dst (N := 33) rfl ?_); refine Kd.R_lit (Kd.int .i64) _ 3 ?hg (N := 33) ?hd (xs := ([wrap64 (Int.tdiv x5_1 16), Int.tmod x5_1 16] : List Int)) (inner := [.int .i64 (wrap64 (Int.tdiv x5_1 16)), .int .i64 (Int.tmod x5_1 16)]) (ok := fun _ => True) (okp := fun _ => True) ?hr ?hp (fun _ hk => hk) trivial (Below.refl _ _) (Nat.le_refl _) (by simp) ?_; (case hd => rfl); (case hg => rfl); (case hr => first | (go_simp; done) | (go_simp; rfl)); (case hp => exact (Reps.one (show Kd.M (Kd.int .i64) _ _ _ (wrap64 (Int.tdiv x5_1 16)) [.int .i64 (wrap64 (Int.tdiv x5_1 16))] from rfl) (Reps.one (show Kd.M (Kd.int .i64) _ _ _ (Int.tmod x5_1 16) [.int .i64 (Int.tmod x5_1 16)] from rfl) (Reps.none _ _)))); intro v107 w12 ho13 hb hg_ hnew_; clear hg_ hnew_; (first | rw [← Ny106.out] at ho13 | (simp only [Int.reduceToNat] at ho13; rw [← Ny106.out] at ho13)); have n0_ := Aside0.mk (Kd.R_elder' (by (with_reducible repeat (first | apply Kd.R_alloc | apply Kd.R_drewN | apply Kd.R_drew)); exact HO_4.out) (Kd.R_base ho13) hb); have n1_ := Aside0.mk (Kd.R_lower (Kd.R_new' ho13 (Kd.R_lt (by (with_reducible repeat (first | apply Kd.R_alloc | apply Kd.R_drewN | apply Kd.R_drew)); exact HO_4.out))) (below_size (by repeat (first | (with_reducible first | exact HB.out | apply below_alloc | apply pw_below_drewN | apply below_drew1) | exact HB.out)))); have n2_ := Aside0.mk (below_step (by repeat (first | (with_reducible first | exact HB.out | apply below_alloc | apply pw_below_drewN | apply below_drew1) | exact HB.out)) hb); clear HO_4; clear HB; have HO_4 := n0_; have HO108 := n1_; have HB := n2_; clear n0_ n1_ n2_; clear hb ho13; obtain ⟨Ao15, co15, eo15⟩ := Kd.R_slice HO108.out; subst eo15) | ((with_reducible refine gate_builtin (b := .append) (xs := #[.tmp 28, .tmp 33]) rfl ?_); at_builtin; refine Kd.R_append_rows (Kd.int .i64) (w0 := w) w.heap.size rfl (.tmp 28) (.tmp 33) 81 3 (.int .i64 0) 8 rfl Tryd.underlying81 info3 rfl (by decide) (by omega) u4 x4_1 y106 _ _ _ (fun k_ => some k_ ≠ (.slice Ao15 y106.length co15 : Value).ownBlock) (fun _ => False) rfl rfl ?aO ?aR (fun _ _ h => h) (fun _ h => h.elim) ?aF ?aB ?aS ?aL ?_; (case aR => repeat (first | exact (Kd.R_reads' HO108.out).2.2 | (with_reducible refine Kd.C_alloc ?_ _) | (with_reducible refine Kd.C_drewN ?_ _) | (with_reducible refine Kd.C_drew ?_))); (case aB => exact (by repeat (first | (with_reducible first | exact HB.out | apply below_alloc | apply pw_below_drewN | apply below_drew1) | exact HB.out))); (case aF => exact (fun k_ hk => Kd.fresh' (Kd.R_lt (by (with_reducible repeat (first | apply Kd.R_alloc | apply Kd.R_drewN | apply Kd.R_drew)); exact HO108.out)) k_ hk)); (case aO => exact (by (with_reducible repeat (first | apply Kd.R_alloc | apply Kd.R_drewN | apply Kd.R_drew)); exact Kd.R_mono HO_4.out (fun _ hk => hk.2))); (case aS => exact (below_size (by repeat (first | (with_reducible first | exact HB.out | apply below_alloc | apply pw_below_drewN | apply below_drew1) | exact HB.out)))); (case aL => have := LMc11.out; omega); intro v110 w14 ho hb hg hat; rw [← Ny109.out] at ho; have n0_ := Aside0.mk (Kd.R_after (ok := (fun _ => True)) (by (with_reducible repeat (first | apply Kd.R_alloc | apply Kd.R_drewN | apply Kd.R_drew)); exact HO108.out) hg hat); have n1_ := Aside0.mk (hb); have n2_ := Aside0.mk (ho); clear HO108; clear HB; clear HO_4; have HO108 := n0_; have HB := n1_; have HO111 := n2_; clear n0_ n1_ n2_; clear ho hb hg hat))
          go_ret
          exact ⟨_, by first | rfl | (simp [errW_none, errW_some] <;> rfl) | (simp [*, errW_none, errW_some] <;> rfl), by (with_reducible repeat (first | apply Kd.R_alloc | apply Kd.R_drewN | apply Kd.R_drew)); exact Kd.R_mono HO111.out (fun _ hk => trivial), by repeat (first | (with_reducible first | exact HB.out | apply below_alloc | apply pw_below_drewN | apply below_drew1) | exact HB.out)⟩
        · rw [if_neg c11] at H
          exact absurd H (by simp)
def planisphereref02_Start.f (a0 : ByteArray) (a1 : Int) (a2 : Int) : Option (ByteArray) := (planisphereref01_Decimal.f a1).bind fun t112 => ((planisphereref01_Decimal.f a2).bind fun t113 => ((planisphereref01_List.f (([a0, t112, t113] : List ByteArray))).bind fun t117 => (some t117)))
set_option maxHeartbeats 8000000 in
set_option maxRecDepth 100000 in
theorem planisphereref02_Start.calls (a0 : ByteArray) (a1 : Int) (a2 : Int) (r : ByteArray) (w : World) (h : planisphereref02_Start.f a0 a1 a2 = some r) :
    Calls Tryd.prog 58 #[.string a0, .int .i64 a1, .int .i64 a2] w fun e w' => e = .returned (.string r) ∧ Below w.heap.size w w' := by
  have HB := Aside0.mk (Below.refl w.heap.size w)
  have H : ((planisphereref01_Decimal.f a1).bind fun t112 => ((planisphereref01_Decimal.f a2).bind fun t113 => ((planisphereref01_List.f (([a0, t112, t113] : List ByteArray))).bind fun t117 => (some t117)))) = some r := h
  clear h
  replace H := Option.bind_eq_some_iff.mp H
  obtain ⟨t112, A40, H⟩ := H
  replace H : ((planisphereref01_Decimal.f a2).bind fun t113 => ((planisphereref01_List.f (([a0, t112, t113] : List ByteArray))).bind fun t117 => (some t117))) = some r := H
  have A4 := Aside0.mk A40
  clear A40
  replace H := Option.bind_eq_some_iff.mp H
  obtain ⟨t113, A50, H⟩ := H
  replace H : ((planisphereref01_List.f (([a0, t112, t113] : List ByteArray))).bind fun t117 => (some t117)) = some r := H
  have A5 := Aside0.mk A50
  clear A50
  obtain ⟨y114, hy114⟩ : ∃ y_ : List ByteArray, y_ = (([a0, t112, t113] : List ByteArray)) := ⟨_, rfl⟩
  replace H : ((planisphereref01_List.f y114).bind fun t117 => (some t117)) = some r := by first | (rw [hy114]; with_reducible exact H) | (have H2_ := (Option.bind_some _ _).symm.trans H; rw [hy114]; with_reducible exact H2_) | (have H2_ := (Option.bind_some _ _).symm.trans H; with_reducible exact H2_) | with_reducible exact H | (rw [hy114]; exact H) | exact H
  have Ny114 := Aside0.mk hy114
  clear hy114
  replace H := Option.bind_eq_some_iff.mp H
  obtain ⟨t117, A60, H⟩ := H
  replace H : (some t117) = some r := H
  have A6 := Aside0.mk A60
  clear A60
  obtain rfl := Option.some.inj H
  go_enter Tryd.func58, Tryd.ntmps58
  go_wp2_with (first | ((with_reducible refine gate_callee (f := 47) rfl ?_); refine goesL_ (some 9) rfl rfl Tryd.func47 (by kernel_rfl) rfl #[.int .i64 a1] rfl (by (try simp only [List.map_toArray, List.map_cons, List.map_nil]); first | done | rfl | (simp only [List.length_drop, List.length_take]; rfl)) ?_; (with_reducible refine (planisphereref01_Decimal.callsB a1 t112 _ A4.out).mono ?_); clear A4; rintro e w7 ⟨rfl, hb⟩; refine ⟨_, rfl, ?_⟩; have n0_ := Aside0.mk (below_step (by repeat (first | (with_reducible first | exact HB.out | apply below_alloc | apply pw_below_drewN | apply below_drew1) | exact HB.out)) hb); clear HB; have HB := n0_; clear n0_; (try clear hb); (try clear hb2); (try clear hk); (try clear hi)) | ((with_reducible refine gate_callee (f := 47) rfl ?_); refine goesL_ (some 11) rfl rfl Tryd.func47 (by kernel_rfl) rfl #[.int .i64 a2] rfl (by (try simp only [List.map_toArray, List.map_cons, List.map_nil]); first | done | rfl | (simp only [List.length_drop, List.length_take]; rfl)) ?_; (with_reducible refine (planisphereref01_Decimal.callsB a2 t113 _ A5.out).mono ?_); clear A5; rintro e w8 ⟨rfl, hb⟩; refine ⟨_, rfl, ?_⟩; have n0_ := Aside0.mk (below_step (by repeat (first | (with_reducible first | exact HB.out | apply below_alloc | apply pw_below_drewN | apply below_drew1) | exact HB.out)) hb); clear HB; have HB := n0_; clear n0_; (try clear hb); (try clear hb2); (try clear hk); (try clear hi)) | ((with_reducible refine gate_dst (N := 12) rfl ?_); refine Kd.R_lit Kd.string _ 9 ?hg (N := 12) ?hd (xs := ([a0, t112, t113] : List ByteArray)) (inner := [.string a0, .string t112, .string t113]) (ok := fun _ => True) (okp := fun _ => True) ?hr ?hp (fun _ hk => hk) trivial (Below.refl _ _) (Nat.le_refl _) (by simp) ?_; (case hd => rfl); (case hg => rfl); (case hr => first | (go_simp; done) | (go_simp; rfl)); (case hp => exact (Reps.one (show Kd.M Kd.string _ _ _ a0 [.string a0] from rfl) (Reps.one (show Kd.M Kd.string _ _ _ t112 [.string t112] from rfl) (Reps.one (show Kd.M Kd.string _ _ _ t113 [.string t113] from rfl) (Reps.none _ _))))); intro v115 w9 ho10 hb hg_ hnew_; clear hg_ hnew_; (first | rw [← Ny114.out] at ho10 | (simp only [Int.reduceToNat] at ho10; rw [← Ny114.out] at ho10)); have n0_ := Aside0.mk (Kd.R_lower ho10 (below_size (by repeat (first | (with_reducible first | exact HB.out | apply below_alloc | apply pw_below_drewN | apply below_drew1) | exact HB.out)))); have n1_ := Aside0.mk (below_step (by repeat (first | (with_reducible first | exact HB.out | apply below_alloc | apply pw_below_drewN | apply below_drew1) | exact HB.out)) hb); clear HB; have HO116 := n0_; have HB := n1_; clear n0_ n1_; clear hb ho10; obtain ⟨Ao11, co11, eo11⟩ := Kd.R_slice HO116.out; subst eo11) | ((with_reducible refine gate_callee (f := 20) rfl ?_); refine goesL_ (some 13) rfl rfl Tryd.func20 (by kernel_rfl) rfl #[.slice Ao11 y114.length co11] rfl (by (try simp only [List.map_toArray, List.map_cons, List.map_nil]); first | done | rfl | (simp only [List.length_drop, List.length_take]; rfl)) ?_; (with_reducible refine (planisphereref01_List.calls _ _ y114 t117 _ ?side1 ?side2 A6.out).mono ?_); clear A6; (case side1 => repeat (first | exact (Kd.R_reads' HO116.out).2.2 | (with_reducible refine Kd.C_alloc ?_ _) | (with_reducible refine Kd.C_drewN ?_ _) | (with_reducible refine Kd.C_drew ?_))); (case side2 => exact (Kd.R_reads' HO116.out).2.1); rintro e w12 ⟨rfl, hb⟩; refine ⟨_, rfl, ?_⟩; have n0_ := Aside0.mk (Kd.R_below (by (with_reducible repeat (first | apply Kd.R_alloc | apply Kd.R_drewN | apply Kd.R_drew)); exact HO116.out) hb); have n1_ := Aside0.mk (below_step (by repeat (first | (with_reducible first | exact HB.out | apply below_alloc | apply pw_below_drewN | apply below_drew1) | exact HB.out)) hb); clear HO116; clear HB; have HO116 := n0_; have HB := n1_; clear n0_ n1_; (try clear hb); (try clear hb2); (try clear hk); (try clear hi)))
  go_ret
  exact ⟨by first | rfl | (simp [errW_none, errW_some] <;> rfl) | (simp [*, errW_none, errW_some] <;> rfl), by repeat (first | (with_reducible first | exact HB.out | apply below_alloc | apply pw_below_drewN | apply below_drew1) | exact HB.out)⟩
def planisphereref02_Key.l0 : Nat → ByteArray → Int → List ByteArray → Int → Option (ByteArray)
  | 0, _, _, _, _ => none
  | k + 1, x0, x1, x5, x6 => if x6 < 18 then ((planisphereref02_Start.f x0 x1 x6).bind fun t118 => ((planisphereref02_chain.f t118 15).bind fun t119 => (if x5.length < 8796093022208 then (planisphereref02_Key.l0 k x0 x1 (x5 ++ [t119]) (wrap64 (x6 + 1))) else (none)))) else ((planisphereref01_List.f x5).bind fun t123 => (some t123))
def planisphereref02_Key.f (k : Nat) (a0 : ByteArray) (a1 : Int) : Option (ByteArray) := planisphereref02_Key.l0 k a0 a1 ([] : List ByteArray) 0
set_option maxHeartbeats 8000000 in
set_option maxRecDepth 100000 in
theorem planisphereref02_Key.calls (k : Nat) (a0 : ByteArray) (a1 : Int) (r : ByteArray) (w : World) (h : planisphereref02_Key.f k a0 a1 = some r) :
    Calls Tryd.prog 82 #[.string a0, .int .i64 a1] w fun e w' => e = .returned (.string r) ∧ Below w.heap.size w w' := by
  have HB := Aside0.mk (Below.refl w.heap.size w)
  have H : (planisphereref02_Key.l0 k a0 a1 ([] : List ByteArray) 0) = some r := h
  clear h
  have H' := Aside0.mk H
  clear H
  go_enter Tryd.func82, Tryd.ntmps82
  go_wp2
  go_loopg [5, 6] k (fun kq v5 v6 w' => ∃ (x5_1 : List ByteArray) (x6_1 : Int), v6 = .int .i64 x6_1 ∧ Aside0 (planisphereref02_Key.l0 kq a0 a1 x5_1 x6_1 = some r) ∧ Aside0 (kq ≤ k) ∧ Aside0 (Kd.R Kd.string 9 w' w.heap.size (fun _ => True) v5 x5_1) ∧ Aside0 (Below w.heap.size w w'))
  case atStart => exact ⟨(([] : List ByteArray)), (0), (by first | rfl | (simp; done) | (simp [*]; done)), H', ⟨Nat.le_refl _⟩, ⟨by first | exact Kd.R_nil _ _ _ _ _ | exact Kd.N_nil _ _ _ _ _ | exact Kd.V_nil _ _ _ _ _ | exact Kd.Q_nil _ _ _ _ _ | exact Kd.S_nil _ _ _ _ _⟩, ⟨by repeat (first | (with_reducible first | exact HB.out | apply below_alloc | apply pw_below_drewN | apply below_drew1) | exact HB.out)⟩⟩
  case round =>
    clear H'
    try clear p2
    obtain ⟨x5_1, x6_1, rfl, HA, HK1, HO_5, HB⟩ := hrel
    cases gk with
    | zero => exact absurd HA.out (by simp [planisphereref02_Key.l0])
    | succ k1 =>
      have H := HA.out
      clear HA
      simp only [planisphereref02_Key.l0] at H
      by_cases c3 : x6_1 < 18
      · rw [if_pos c3] at H
        have c3b0 : decide (x6_1 < 18) = true := decide_eq_true c3
        clear c3
        replace H := Option.bind_eq_some_iff.mp H
        obtain ⟨t118, A40, H⟩ := H
        replace H : ((planisphereref02_chain.f t118 15).bind fun t119 => (if x5_1.length < 8796093022208 then (planisphereref02_Key.l0 k1 a0 a1 (x5_1 ++ [t119]) (wrap64 (x6_1 + 1))) else (none))) = some r := H
        have A4 := Aside0.mk A40
        clear A40
        replace H := Option.bind_eq_some_iff.mp H
        obtain ⟨t119, A50, H⟩ := H
        replace H : (if x5_1.length < 8796093022208 then (planisphereref02_Key.l0 k1 a0 a1 (x5_1 ++ [t119]) (wrap64 (x6_1 + 1))) else (none)) = some r := H
        have A5 := Aside0.mk A50
        clear A50
        by_cases c6 : x5_1.length < 8796093022208
        · rw [if_pos c6] at H
          have LMc6 := Aside0.mk c6
          clear c6
          obtain ⟨y120, hy120⟩ : ∃ y_ : List ByteArray, y_ = (x5_1 ++ [t119]) := ⟨_, rfl⟩
          replace H : (planisphereref02_Key.l0 k1 a0 a1 y120 (wrap64 (x6_1 + 1))) = some r := by first | (rw [hy120]; with_reducible exact H) | (have H2_ := (Option.bind_some _ _).symm.trans H; rw [hy120]; with_reducible exact H2_) | (have H2_ := (Option.bind_some _ _).symm.trans H; with_reducible exact H2_) | with_reducible exact H | (rw [hy120]; exact H) | exact H
          have Ny120 := Aside0.mk hy120
          clear hy120
          have H' := Aside0.mk H
          clear H
          go_wp2_with (first | ((with_reducible refine gate_callee (f := 58) rfl ?_); refine goesL_ (some 15) rfl rfl Tryd.func58 (by kernel_rfl) rfl #[.string a0, .int .i64 a1, .int .i64 x6_1] rfl (by (try simp only [List.map_toArray, List.map_cons, List.map_nil]); first | done | rfl | (simp only [List.length_drop, List.length_take]; rfl)) ?_; (with_reducible refine (planisphereref02_Start.calls a0 a1 x6_1 t118 _ A4.out).mono ?_); rintro e w7 ⟨rfl, hb⟩; refine ⟨_, rfl, ?_⟩; have n0_ := Aside0.mk (Kd.R_below (by (with_reducible repeat (first | apply Kd.R_alloc | apply Kd.R_drewN | apply Kd.R_drew)); exact HO_5.out) hb); have n1_ := Aside0.mk (below_step (by repeat (first | (with_reducible first | exact HB.out | apply below_alloc | apply pw_below_drewN | apply below_drew1) | exact HB.out)) hb); clear HO_5; clear HB; have HO_5 := n0_; have HB := n1_; clear n0_ n1_; (try clear hb); (try clear hb2); (try clear hk); (try clear hi)) | ((with_reducible refine gate_callee (f := 57) rfl ?_); refine goesL_ (some 16) rfl rfl Tryd.func57 (by kernel_rfl) rfl #[.string t118, .int .i64 15] rfl (by (try simp only [List.map_toArray, List.map_cons, List.map_nil]); first | done | rfl | (simp only [List.length_drop, List.length_take]; rfl)) ?_; (with_reducible refine (planisphereref02_chain.calls t118 15 t119 _ A5.out).mono ?_); clear A5; rintro e w8 ⟨rfl, hb⟩; refine ⟨_, rfl, ?_⟩; have n0_ := Aside0.mk (Kd.R_below (by (with_reducible repeat (first | apply Kd.R_alloc | apply Kd.R_drewN | apply Kd.R_drew)); exact HO_5.out) hb); have n1_ := Aside0.mk (below_step (by repeat (first | (with_reducible first | exact HB.out | apply below_alloc | apply pw_below_drewN | apply below_drew1) | exact HB.out)) hb); clear HO_5; clear HB; have HO_5 := n0_; have HB := n1_; clear n0_ n1_; (try clear hb); (try clear hb2); (try clear hk); (try clear hi)) | ((with_reducible refine gate_builtin (b := .append) (xs := #[.tmp 11, .tmp 17]) rfl ?_); at_builtin; refine Kd.R_append Kd.string (w0 := w) w.heap.size rfl (.tmp 11) (.tmp 17) 22 9 (.string ⟨#[]⟩) 16 rfl Tryd.underlying22 info9 rfl (by decide) (by omega) u5 x5_1 t119 [.string t119] (fun _ => True) (fun _ => False) rfl rfl ?aP (fun _ hk => hk.elim) ?aF ?aO ?aB ?aS ?aL ?_; (case aP => exact rfl); (case aB => exact (by repeat (first | (with_reducible first | exact HB.out | apply below_alloc | apply pw_below_drewN | apply below_drew1) | exact HB.out))); (case aF => exact (fun _ _ => trivial)); (case aO => exact (by (with_reducible repeat (first | apply Kd.R_alloc | apply Kd.R_drewN | apply Kd.R_drew)); exact HO_5.out)); (case aS => exact (below_size (by repeat (first | (with_reducible first | exact HB.out | apply below_alloc | apply pw_below_drewN | apply below_drew1) | exact HB.out)))); (case aL => have := LMc6.out; omega); intro v121 w9 ho hb hg hat; rw [← Ny120.out] at ho; have n0_ := Aside0.mk (hb); have n1_ := Aside0.mk (ho); clear HB; clear HO_5; have HB := n0_; have HO122 := n1_; clear n0_ n1_; clear ho hb hg hat))
          go_roundg k1
          case measure => have := HK1.out; omega
          case rel => exact ⟨(y120), (wrap64 (x6_1 + 1)), (by first | rfl | (simp; done) | (simp [*]; done)), H', ⟨by have := HK1.out; omega⟩, ⟨by (with_reducible repeat (first | apply Kd.R_alloc | apply Kd.R_drewN | apply Kd.R_drew)); exact HO122.out⟩, ⟨by repeat (first | (with_reducible first | exact HB.out | apply below_alloc | apply pw_below_drewN | apply below_drew1) | exact HB.out)⟩⟩
        · rw [if_neg c6] at H
          exact absurd H (by simp)
      · rw [if_neg c3] at H
        have c3b0 : decide (x6_1 < 18) = false := decide_eq_false c3
        clear c3
        replace H := Option.bind_eq_some_iff.mp H
        obtain ⟨t123, A100, H⟩ := H
        replace H : (some t123) = some r := H
        have A10 := Aside0.mk A100
        clear A100
        obtain rfl := Option.some.inj H
        obtain ⟨Ao11, co11, eo11⟩ := Kd.R_slice HO_5.out
        subst eo11
        go_wp2_with (first | ((with_reducible refine gate_callee (f := 20) rfl ?_); refine goesL_ (some 20) rfl rfl Tryd.func20 (by kernel_rfl) rfl #[.slice Ao11 x5_1.length co11] rfl (by (try simp only [List.map_toArray, List.map_cons, List.map_nil]); first | done | rfl | (simp only [List.length_drop, List.length_take]; rfl)) ?_; (with_reducible refine (planisphereref01_List.calls _ _ x5_1 t123 _ ?side1 ?side2 A10.out).mono ?_); clear A10; (case side1 => repeat (first | exact (Kd.R_reads' HO_5.out).2.2 | (with_reducible refine Kd.C_alloc ?_ _) | (with_reducible refine Kd.C_drewN ?_ _) | (with_reducible refine Kd.C_drew ?_))); (case side2 => exact (Kd.R_reads' HO_5.out).2.1); rintro e w12 ⟨rfl, hb⟩; refine ⟨_, rfl, ?_⟩; have n0_ := Aside0.mk (Kd.R_below (by (with_reducible repeat (first | apply Kd.R_alloc | apply Kd.R_drewN | apply Kd.R_drew)); exact HO_5.out) hb); have n1_ := Aside0.mk (below_step (by repeat (first | (with_reducible first | exact HB.out | apply below_alloc | apply pw_below_drewN | apply below_drew1) | exact HB.out)) hb); clear HO_5; clear HB; have HO_5 := n0_; have HB := n1_; clear n0_ n1_; (try clear hb); (try clear hb2); (try clear hk); (try clear hi)))
        go_ret
        exact ⟨by first | rfl | (simp [errW_none, errW_some] <;> rfl) | (simp [*, errW_none, errW_some] <;> rfl), by repeat (first | (with_reducible first | exact HB.out | apply below_alloc | apply pw_below_drewN | apply below_drew1) | exact HB.out)⟩
def planisphereref02_parent.f (a0 : ByteArray) (a1 : ByteArray) (a2 : Bool) : Option (ByteArray) := if a2 = true then ((planisphereref01_List.f (([(⟨#[110, 111, 100, 101]⟩ : ByteArray), a1, a0] : List ByteArray))).bind fun t127 => (some t127)) else ((planisphereref01_List.f (([(⟨#[110, 111, 100, 101]⟩ : ByteArray), a0, a1] : List ByteArray))).bind fun t131 => (some t131))
set_option maxHeartbeats 8000000 in
set_option maxRecDepth 100000 in
theorem planisphereref02_parent.calls (a0 : ByteArray) (a1 : ByteArray) (a2 : Bool) (r : ByteArray) (w : World) (h : planisphereref02_parent.f a0 a1 a2 = some r) :
    Calls Tryd.prog 65 #[.string a0, .string a1, .bool a2] w fun e w' => e = .returned (.string r) ∧ Below w.heap.size w w' := by
  have HB := Aside0.mk (Below.refl w.heap.size w)
  have H : (if a2 = true then ((planisphereref01_List.f (([(⟨#[110, 111, 100, 101]⟩ : ByteArray), a1, a0] : List ByteArray))).bind fun t127 => (some t127)) else ((planisphereref01_List.f (([(⟨#[110, 111, 100, 101]⟩ : ByteArray), a0, a1] : List ByteArray))).bind fun t131 => (some t131))) = some r := h
  clear h
  by_cases c4 : a2 = true
  · subst c4
    have H1 : ((planisphereref01_List.f (([(⟨#[110, 111, 100, 101]⟩ : ByteArray), a1, a0] : List ByteArray))).bind fun t127 => (some t127)) = some r := by rw [if_pos rfl] at H; exact H
    clear H
    have H := H1
    clear H1
    obtain ⟨y124, hy124⟩ : ∃ y_ : List ByteArray, y_ = (([(⟨#[110, 111, 100, 101]⟩ : ByteArray), a1, a0] : List ByteArray)) := ⟨_, rfl⟩
    replace H : ((planisphereref01_List.f y124).bind fun t127 => (some t127)) = some r := by first | (rw [hy124]; with_reducible exact H) | (have H2_ := (Option.bind_some _ _).symm.trans H; rw [hy124]; with_reducible exact H2_) | (have H2_ := (Option.bind_some _ _).symm.trans H; with_reducible exact H2_) | with_reducible exact H | (rw [hy124]; exact H) | exact H
    have Ny124 := Aside0.mk hy124
    clear hy124
    replace H := Option.bind_eq_some_iff.mp H
    obtain ⟨t127, A50, H⟩ := H
    replace H : (some t127) = some r := H
    have A5 := Aside0.mk A50
    clear A50
    obtain rfl := Option.some.inj H
    go_enter Tryd.func65, Tryd.ntmps65
    go_wp2_with (first | ((with_reducible refine gate_dst (N := 10) rfl ?_); refine Kd.R_lit Kd.string _ 9 ?hg (N := 10) ?hd (xs := ([(⟨#[110, 111, 100, 101]⟩ : ByteArray), a1, a0] : List ByteArray)) (inner := [.string (⟨#[110, 111, 100, 101]⟩ : ByteArray), .string a1, .string a0]) (ok := fun _ => True) (okp := fun _ => True) ?hr ?hp (fun _ hk => hk) trivial (Below.refl _ _) (Nat.le_refl _) (by simp) ?_; (case hd => rfl); (case hg => rfl); (case hr => first | (go_simp; done) | (go_simp; rfl)); (case hp => exact (Reps.one (show Kd.M Kd.string _ _ _ (⟨#[110, 111, 100, 101]⟩ : ByteArray) [.string (⟨#[110, 111, 100, 101]⟩ : ByteArray)] from rfl) (Reps.one (show Kd.M Kd.string _ _ _ a1 [.string a1] from rfl) (Reps.one (show Kd.M Kd.string _ _ _ a0 [.string a0] from rfl) (Reps.none _ _))))); intro v125 w6 ho7 hb hg_ hnew_; clear hg_ hnew_; (first | rw [← Ny124.out] at ho7 | (simp only [Int.reduceToNat] at ho7; rw [← Ny124.out] at ho7)); have n0_ := Aside0.mk (Kd.R_lower ho7 (below_size (by repeat (first | (with_reducible first | exact HB.out | apply below_alloc | apply pw_below_drewN | apply below_drew1) | exact HB.out)))); have n1_ := Aside0.mk (below_step (by repeat (first | (with_reducible first | exact HB.out | apply below_alloc | apply pw_below_drewN | apply below_drew1) | exact HB.out)) hb); clear HB; have HO126 := n0_; have HB := n1_; clear n0_ n1_; clear hb ho7; obtain ⟨Ao8, co8, eo8⟩ := Kd.R_slice HO126.out; subst eo8) | ((with_reducible refine gate_callee (f := 20) rfl ?_); refine goesL_ (some 11) rfl rfl Tryd.func20 (by kernel_rfl) rfl #[.slice Ao8 y124.length co8] rfl (by (try simp only [List.map_toArray, List.map_cons, List.map_nil]); first | done | rfl | (simp only [List.length_drop, List.length_take]; rfl)) ?_; (with_reducible refine (planisphereref01_List.calls _ _ y124 t127 _ ?side1 ?side2 A5.out).mono ?_); clear A5; (case side1 => repeat (first | exact (Kd.R_reads' HO126.out).2.2 | (with_reducible refine Kd.C_alloc ?_ _) | (with_reducible refine Kd.C_drewN ?_ _) | (with_reducible refine Kd.C_drew ?_))); (case side2 => exact (Kd.R_reads' HO126.out).2.1); rintro e w9 ⟨rfl, hb⟩; refine ⟨_, rfl, ?_⟩; have n0_ := Aside0.mk (Kd.R_below (by (with_reducible repeat (first | apply Kd.R_alloc | apply Kd.R_drewN | apply Kd.R_drew)); exact HO126.out) hb); have n1_ := Aside0.mk (below_step (by repeat (first | (with_reducible first | exact HB.out | apply below_alloc | apply pw_below_drewN | apply below_drew1) | exact HB.out)) hb); clear HO126; clear HB; have HO126 := n0_; have HB := n1_; clear n0_ n1_; (try clear hb); (try clear hb2); (try clear hk); (try clear hi)))
    go_ret
    exact ⟨by first | rfl | (simp [errW_none, errW_some] <;> rfl) | (simp [*, errW_none, errW_some] <;> rfl), by repeat (first | (with_reducible first | exact HB.out | apply below_alloc | apply pw_below_drewN | apply below_drew1) | exact HB.out)⟩
  · replace c4 := Bool.eq_false_iff.mpr c4
    subst c4
    have H1 : ((planisphereref01_List.f (([(⟨#[110, 111, 100, 101]⟩ : ByteArray), a0, a1] : List ByteArray))).bind fun t131 => (some t131)) = some r := by rw [if_neg (show ¬ (false = true) by decide)] at H; exact H
    clear H
    have H := H1
    clear H1
    obtain ⟨y128, hy128⟩ : ∃ y_ : List ByteArray, y_ = (([(⟨#[110, 111, 100, 101]⟩ : ByteArray), a0, a1] : List ByteArray)) := ⟨_, rfl⟩
    replace H : ((planisphereref01_List.f y128).bind fun t131 => (some t131)) = some r := by first | (rw [hy128]; with_reducible exact H) | (have H2_ := (Option.bind_some _ _).symm.trans H; rw [hy128]; with_reducible exact H2_) | (have H2_ := (Option.bind_some _ _).symm.trans H; with_reducible exact H2_) | with_reducible exact H | (rw [hy128]; exact H) | exact H
    have Ny128 := Aside0.mk hy128
    clear hy128
    replace H := Option.bind_eq_some_iff.mp H
    obtain ⟨t131, A100, H⟩ := H
    replace H : (some t131) = some r := H
    have A10 := Aside0.mk A100
    clear A100
    obtain rfl := Option.some.inj H
    go_enter Tryd.func65, Tryd.ntmps65
    go_wp2_with (first | ((with_reducible refine gate_dst (N := 14) rfl ?_); refine Kd.R_lit Kd.string _ 9 ?hg (N := 14) ?hd (xs := ([(⟨#[110, 111, 100, 101]⟩ : ByteArray), a0, a1] : List ByteArray)) (inner := [.string (⟨#[110, 111, 100, 101]⟩ : ByteArray), .string a0, .string a1]) (ok := fun _ => True) (okp := fun _ => True) ?hr ?hp (fun _ hk => hk) trivial (Below.refl _ _) (Nat.le_refl _) (by simp) ?_; (case hd => rfl); (case hg => rfl); (case hr => first | (go_simp; done) | (go_simp; rfl)); (case hp => exact (Reps.one (show Kd.M Kd.string _ _ _ (⟨#[110, 111, 100, 101]⟩ : ByteArray) [.string (⟨#[110, 111, 100, 101]⟩ : ByteArray)] from rfl) (Reps.one (show Kd.M Kd.string _ _ _ a0 [.string a0] from rfl) (Reps.one (show Kd.M Kd.string _ _ _ a1 [.string a1] from rfl) (Reps.none _ _))))); intro v129 w11 ho12 hb hg_ hnew_; clear hg_ hnew_; (first | rw [← Ny128.out] at ho12 | (simp only [Int.reduceToNat] at ho12; rw [← Ny128.out] at ho12)); have n0_ := Aside0.mk (Kd.R_lower ho12 (below_size (by repeat (first | (with_reducible first | exact HB.out | apply below_alloc | apply pw_below_drewN | apply below_drew1) | exact HB.out)))); have n1_ := Aside0.mk (below_step (by repeat (first | (with_reducible first | exact HB.out | apply below_alloc | apply pw_below_drewN | apply below_drew1) | exact HB.out)) hb); clear HB; have HO130 := n0_; have HB := n1_; clear n0_ n1_; clear hb ho12; obtain ⟨Ao13, co13, eo13⟩ := Kd.R_slice HO130.out; subst eo13) | ((with_reducible refine gate_callee (f := 20) rfl ?_); refine goesL_ (some 15) rfl rfl Tryd.func20 (by kernel_rfl) rfl #[.slice Ao13 y128.length co13] rfl (by (try simp only [List.map_toArray, List.map_cons, List.map_nil]); first | done | rfl | (simp only [List.length_drop, List.length_take]; rfl)) ?_; (with_reducible refine (planisphereref01_List.calls _ _ y128 t131 _ ?side1 ?side2 A10.out).mono ?_); clear A10; (case side1 => repeat (first | exact (Kd.R_reads' HO130.out).2.2 | (with_reducible refine Kd.C_alloc ?_ _) | (with_reducible refine Kd.C_drewN ?_ _) | (with_reducible refine Kd.C_drew ?_))); (case side2 => exact (Kd.R_reads' HO130.out).2.1); rintro e w14 ⟨rfl, hb⟩; refine ⟨_, rfl, ?_⟩; have n0_ := Aside0.mk (Kd.R_below (by (with_reducible repeat (first | apply Kd.R_alloc | apply Kd.R_drewN | apply Kd.R_drew)); exact HO130.out) hb); have n1_ := Aside0.mk (below_step (by repeat (first | (with_reducible first | exact HB.out | apply below_alloc | apply pw_below_drewN | apply below_drew1) | exact HB.out)) hb); clear HO130; clear HB; have HO130 := n0_; have HB := n1_; clear n0_ n1_; (try clear hb); (try clear hb2); (try clear hk); (try clear hi)))
    go_ret
    exact ⟨by first | rfl | (simp [errW_none, errW_some] <;> rfl) | (simp [*, errW_none, errW_some] <;> rfl), by repeat (first | (with_reducible first | exact HB.out | apply below_alloc | apply pw_below_drewN | apply below_drew1) | exact HB.out)⟩
def planisphereref02_up.l0 : Nat → List ByteArray → List ByteArray → Int → Option (List ByteArray)
  | 0, _, _, _ => none
  | k + 1, x0, x3, x4 => if (wrap64 (x4 + 1)) < (x0.length : Int) then (if 0 ≤ x4 then (if x4 < (x0.length : Int) then (if 0 ≤ (wrap64 (x4 + 1)) then ((planisphereref01_List.f (([(⟨#[110, 111, 100, 101]⟩ : ByteArray), rdOf ByteArray.empty x0 x4, rdOf ByteArray.empty x0 (wrap64 (x4 + 1))] : List ByteArray))).bind fun t148 => (if x3.length < 8796093022208 then (planisphereref02_up.l0 k x0 (x3 ++ [t148]) (wrap64 (x4 + 2))) else (none))) else (none)) else (none)) else (none)) else (some x3)
def planisphereref02_up.f (k : Nat) (l0 : List ByteArray) : Option (List ByteArray) := planisphereref02_up.l0 k l0 ([] : List ByteArray) 0
def planisphereref02_up.T5 : Bool × List (List Nat × List Nat) := (true, [([], []), ([], []), ([], []), ([1, 2], [1, 2]), ([3], [3]), ([], []), ([], []), ([6], [6]), ([5, 7], [5, 7]), ([8], [8]), ([4, 9], [4, 9]), ([10], [10]), ([11], [11]), ([0, 12, 11], [0, 12]), ([13, 13, 0, 1, 2, 3, 4, 5, 6, 7, 8, 9, 10, 11, 12, 13], [0, 13])])
def planisphereref02_up.B5 : List Nat := [0, 0, 0, 6, 14, 0, 0, 64, 224, 480, 1022, 2046, 4094, 8191, 16383]
theorem planisphereref02_up.tab5 : rtab .any (opsOf Tryd.f81 5) = planisphereref02_up.T5 := by kernel_rfl
theorem planisphereref02_up.bits5 : waitsOk planisphereref02_up.T5.2 planisphereref02_up.B5 = true := by kernel_rfl
set_option maxHeartbeats 8000000 in
set_option maxRecDepth 100000 in
theorem planisphereref02_up.calls (k : Nat) (A0 : Option Addr) (c0 : Nat) (l0 : List ByteArray) (r : List ByteArray) (w : World) (hr0 : Kd.C Kd.string w A0 l0.length l0) (hc0 : l0.length ≤ c0) (h : planisphereref02_up.f k l0 = some r) :
    Calls Tryd.prog 81 #[.slice A0 l0.length c0] w fun e w' => ∃ v0_ : Value, e = .returned (v0_) ∧ Kd.R Kd.string 9 w' w.heap.size (fun _ => True) v0_ r ∧ Below w.heap.size w w' := by
  have HR0 := Aside0.mk hr0
  have HC0 := Aside0.mk hc0
  clear hr0 hc0
  have HB := Aside0.mk (Below.refl w.heap.size w)
  have H : (planisphereref02_up.l0 k l0 ([] : List ByteArray) 0) = some r := h
  clear h
  have H' := Aside0.mk H
  clear H
  go_enter Tryd.func81, Tryd.ntmps81
  go_wp2
  go_loopg [3, 4] k (fun kq v3 v4 w' => ∃ (x3_1 : List ByteArray) (x4_1 : Int), v4 = .int .i64 x4_1 ∧ Aside0 (planisphereref02_up.l0 kq l0 x3_1 x4_1 = some r) ∧ Aside0 (kq ≤ k) ∧ Aside0 (Kd.R Kd.string 9 w' w.heap.size (fun _ => True) v3 x3_1) ∧ Aside0 (Below w.heap.size w w'))
  case atStart => exact ⟨(([] : List ByteArray)), (0), (by first | rfl | (simp; done) | (simp [*]; done)), H', ⟨Nat.le_refl _⟩, ⟨by first | exact Kd.R_nil _ _ _ _ _ | exact Kd.N_nil _ _ _ _ _ | exact Kd.V_nil _ _ _ _ _ | exact Kd.Q_nil _ _ _ _ _ | exact Kd.S_nil _ _ _ _ _⟩, ⟨by repeat (first | (with_reducible first | exact HB.out | apply below_alloc | apply pw_below_drewN | apply below_drew1) | exact HB.out)⟩⟩
  case round =>
    clear H'
    obtain ⟨x3_1, x4_1, rfl, HA, HK1, HO_3, HB⟩ := hrel
    cases gk with
    | zero => exact absurd HA.out (by simp [planisphereref02_up.l0])
    | succ k1 =>
      have H := HA.out
      clear HA
      simp only [planisphereref02_up.l0] at H
      by_cases c2 : (wrap64 (x4_1 + 1)) < (l0.length : Int)
      · rw [if_pos c2] at H
        have c2b0 : decide ((wrap64 (x4_1 + 1)) < (l0.length : Int)) = true := decide_eq_true c2
        clear c2
        by_cases c3 : 0 ≤ x4_1
        · rw [if_pos c3] at H
          have c3b0 : decide (0 ≤ x4_1) = true := decide_eq_true c3
          clear c3
          by_cases c4 : x4_1 < (l0.length : Int)
          · rw [if_pos c4] at H
            have c4b0 : decide (x4_1 < (l0.length : Int)) = true := decide_eq_true c4
            clear c4
            obtain ⟨ji5, hji5⟩ : ∃ j_ : Int, (wrap64 (x4_1 + 1)) = j_ := ⟨_, rfl⟩
            replace H : (if 0 ≤ (ji5) then ((planisphereref01_List.f (([(⟨#[110, 111, 100, 101]⟩ : ByteArray), rdOf ByteArray.empty l0 x4_1, rdOf ByteArray.empty l0 (ji5)] : List ByteArray))).bind fun t148 => (if x3_1.length < 8796093022208 then (planisphereref02_up.l0 k1 l0 (x3_1 ++ [t148]) (wrap64 (x4_1 + 2))) else (none))) else (none)) = some r := by first | (rw [hji5] at H; exact H) | (simp only [hji5] at H ⊢; exact H)
            (try rw [hji5] at c2b0)
            have hji5w : (IntKind.i64.wrap (x4_1 + 1)) = ji5 := (i64_w _).trans hji5
            by_cases c6 : 0 ≤ (ji5)
            · rw [if_pos c6] at H
              have c6b0 : decide (0 ≤ (ji5)) = true := decide_eq_true c6
              clear c6
              obtain ⟨y145, hy145⟩ : ∃ y_ : List ByteArray, y_ = (([(⟨#[110, 111, 100, 101]⟩ : ByteArray), rdOf ByteArray.empty l0 x4_1, rdOf ByteArray.empty l0 (ji5)] : List ByteArray)) := ⟨_, rfl⟩
              replace H : ((planisphereref01_List.f y145).bind fun t148 => (if x3_1.length < 8796093022208 then (planisphereref02_up.l0 k1 l0 (x3_1 ++ [t148]) (wrap64 (x4_1 + 2))) else (none))) = some r := by first | (rw [hy145]; with_reducible exact H) | (have H2_ := (Option.bind_some _ _).symm.trans H; rw [hy145]; with_reducible exact H2_) | (have H2_ := (Option.bind_some _ _).symm.trans H; with_reducible exact H2_) | with_reducible exact H | (rw [hy145]; exact H) | exact H
              have Ny145 := Aside0.mk hy145
              clear hy145
              replace H := Option.bind_eq_some_iff.mp H
              obtain ⟨t148, A70, H⟩ := H
              replace H : (if x3_1.length < 8796093022208 then (planisphereref02_up.l0 k1 l0 (x3_1 ++ [t148]) (wrap64 (x4_1 + 2))) else (none)) = some r := H
              have A7 := Aside0.mk A70
              clear A70
              by_cases c8 : x3_1.length < 8796093022208
              · rw [if_pos c8] at H
                have LMc8 := Aside0.mk c8
                clear c8
                obtain ⟨y149, hy149⟩ : ∃ y_ : List ByteArray, y_ = (x3_1 ++ [t148]) := ⟨_, rfl⟩
                replace H : (planisphereref02_up.l0 k1 l0 y149 (wrap64 (x4_1 + 2))) = some r := by first | (rw [hy149]; with_reducible exact H) | (have H2_ := (Option.bind_some _ _).symm.trans H; rw [hy149]; with_reducible exact H2_) | (have H2_ := (Option.bind_some _ _).symm.trans H; with_reducible exact H2_) | with_reducible exact H | (rw [hy149]; exact H) | exact H
                have Ny149 := Aside0.mk hy149
                clear hy149
                have H' := Aside0.mk H
                clear H
                try go_wp2
                have n0_ := Aside0.mk (Kd.R_drew HO_3.out)
                have n1_ := Aside0.mk (below_drew1 HB.out)
                clear HO_3
                clear HB
                have HO_3 := n0_
                have HB := n1_
                clear n0_ n1_
                have p143 : 0 ≤ (x4_1 : Int) := of_decide_eq_true (by first | (with_reducible assumption) | assumption)
                have q143 : x4_1 < (l0.length : Int) := of_decide_eq_true (by first | (with_reducible assumption) | assumption)
                obtain ⟨ad143, e143, hx143_0⟩ := Kd.at_string HR0.out x4_1 p143 q143
                have hw143_0 := hx143_0
                cases e143
                replace hx143_0 := (HB.out.cell (World.block_lt_of_cell? w _ hx143_0)).trans hx143_0
                replace p143 := eq_true p143
                replace q143 := eq_true q143
                have p144 : 0 ≤ ((ji5) : Int) := of_decide_eq_true (by first | (with_reducible assumption) | assumption)
                have q144 : (ji5) < (l0.length : Int) := of_decide_eq_true (by first | (with_reducible assumption) | assumption)
                obtain ⟨ad144, e144, hx144_0⟩ := Kd.at_string HR0.out (ji5) p144 q144
                have hw144_0 := hx144_0
                obtain rfl : ad143 = ad144 := (by injection e144)
                replace hx144_0 := (HB.out.cell (World.block_lt_of_cell? w _ hx144_0)).trans hx144_0
                replace p144 := eq_true p144
                replace q144 := eq_true q144
                refine start_ (n := 15) (S := fun w' => w'.cell? (ad143.add (x4_1).toNat) = some (.string (rdOf ByteArray.empty l0 x4_1)) ∧ w'.cell? (ad143.add ((ji5)).toNat) = some (.string (rdOf ByteArray.empty l0 (ji5)))) (ds := []) #[false, false, false, false, false, false, false, false, false, false, false, false, false, false, false] (by kernel_rfl) rfl rfl ⟨((HB.out.cell (World.block_lt_of_cell? w _ hw143_0)).trans hw143_0), ((HB.out.cell (World.block_lt_of_cell? w _ hw144_0)).trans hw144_0)⟩ (fun hHeld => ?_); refine with_tabW planisphereref02_up.tab5 planisphereref02_up.bits5 (fun HT_ HW_ => ?_)
                generalize wr.drew = w9 at HO_3 HB hx143_0 hx144_0 hHeld ⊢
                refine pure_ (i := 0) (N := some 12) (v := ?_) (a' := ?_) #[true, false, false, false, false, false, false, false, false, false, false, false, false, false, false] rfl rfl (any_of HT_.out (by kernel_rfl)) (fun _ _ _ h => h) (Or.inl ⟨by rfl, ?_⟩) ?_ ?_
                rotate_left
                · intro w'
                  first | (go_simp; with_reducible rfl) | (go_simp; rw [if_neg (by (have hone_ : ∀ b : UInt8, (ByteArray.mk #[b]).size = 1 := fun _ => rfl); (simp only [decide_eq_true_eq, ByteArray.size_extract, ByteArray.size_append, hone_] at *); omega)]; try with_reducible rfl)
                rotate_left
                · simp only [Act.put, List.setIfInBounds_toArray, List.set_cons_zero, List.set_cons_succ, i64_w, i32_w]
                  rfl
                refine pure_ (i := 1) (N := some 13) (v := ?_) (a' := ?_) #[true, true, false, false, false, false, false, false, false, false, false, false, false, false, false] rfl rfl (any_of HT_.out (by kernel_rfl)) (fun _ _ _ h => h) (Or.inl ⟨by rfl, ?_⟩) ?_ ?_
                rotate_left
                · intro w'
                  first | (go_simp; with_reducible rfl) | (go_simp; rw [if_neg (by (have hone_ : ∀ b : UInt8, (ByteArray.mk #[b]).size = 1 := fun _ => rfl); (simp only [decide_eq_true_eq, ByteArray.size_extract, ByteArray.size_append, hone_] at *); omega)]; try with_reducible rfl)
                rotate_left
                · simp only [Act.put, List.setIfInBounds_toArray, List.set_cons_zero, List.set_cons_succ, i64_w, i32_w]
                  rfl
                refine pure_ (i := 2) (N := some 14) (v := ?_) (a' := ?_) #[true, true, true, false, false, false, false, false, false, false, false, false, false, false, false] rfl rfl (any_of HT_.out (by kernel_rfl)) (fun _ _ _ h => h) (Or.inl ⟨by rfl, ?_⟩) ?_ ?_
                rotate_left
                · intro w'
                  first | (go_simp; with_reducible rfl) | (go_simp; rw [if_neg (by (have hone_ : ∀ b : UInt8, (ByteArray.mk #[b]).size = 1 := fun _ => rfl); (simp only [decide_eq_true_eq, ByteArray.size_extract, ByteArray.size_append, hone_] at *); omega)]; try with_reducible rfl)
                rotate_left
                · simp only [Act.put, List.setIfInBounds_toArray, List.set_cons_zero, List.set_cons_succ, i64_w, i32_w]
                  rfl
                refine pure_ (i := 3) (N := some 15) (v := ?_) (a' := ?_) #[true, true, true, true, false, false, false, false, false, false, false, false, false, false, false] rfl rfl (any_of HT_.out (by kernel_rfl)) (fun _ _ _ h => h) (Or.inl ⟨by rfl, ?_⟩) ?_ ?_
                rotate_left
                · intro w'
                  first | (go_simp; with_reducible rfl) | (go_simp; rw [if_neg (by (have hone_ : ∀ b : UInt8, (ByteArray.mk #[b]).size = 1 := fun _ => rfl); (simp only [decide_eq_true_eq, ByteArray.size_extract, ByteArray.size_append, hone_] at *); omega)]; try with_reducible rfl)
                rotate_left
                · simp only [Act.put, List.setIfInBounds_toArray, List.set_cons_zero, List.set_cons_succ, i64_w, i32_w]
                  rfl
                refine pure_ (i := 5) (N := some 17) (v := ?_) (a' := ?_) #[true, true, true, true, false, true, false, false, false, false, false, false, false, false, false] rfl rfl (any_of HT_.out (by kernel_rfl)) (fun _ _ _ h => h) (Or.inl ⟨by rfl, ?_⟩) ?_ ?_
                rotate_left
                · intro w'
                  first | (go_simp; with_reducible rfl) | (go_simp; rw [if_neg (by (have hone_ : ∀ b : UInt8, (ByteArray.mk #[b]).size = 1 := fun _ => rfl); (simp only [decide_eq_true_eq, ByteArray.size_extract, ByteArray.size_append, hone_] at *); omega)]; try with_reducible rfl)
                rotate_left
                · simp only [Act.put, List.setIfInBounds_toArray, List.set_cons_zero, List.set_cons_succ, i64_w, i32_w]
                  rfl
                refine pure_ (i := 6) (N := some 18) (v := ?_) (a' := ?_) #[true, true, true, true, false, true, true, false, false, false, false, false, false, false, false] rfl rfl (any_of HT_.out (by kernel_rfl)) (fun _ _ _ h => h) (Or.inl ⟨by rfl, ?_⟩) ?_ ?_
                rotate_left
                · intro w'
                  first | (go_simp; with_reducible rfl) | (go_simp; rw [if_neg (by (have hone_ : ∀ b : UInt8, (ByteArray.mk #[b]).size = 1 := fun _ => rfl); (simp only [decide_eq_true_eq, ByteArray.size_extract, ByteArray.size_append, hone_] at *); omega)]; try with_reducible rfl)
                rotate_left
                · simp only [Act.put, List.setIfInBounds_toArray, List.set_cons_zero, List.set_cons_succ, i64_w, i32_w]
                  rfl
                refine pure_ (i := 7) (N := some 19) (v := ?_) (a' := ?_) #[true, true, true, true, false, true, true, true, false, false, false, false, false, false, false] rfl rfl (any_of HT_.out (by kernel_rfl)) (fun _ _ _ h => h) (Or.inl ⟨by rfl, ?_⟩) ?_ ?_
                rotate_left
                · intro w'
                  first | (go_simp; with_reducible rfl) | (go_simp; rw [if_neg (by (have hone_ : ∀ b : UInt8, (ByteArray.mk #[b]).size = 1 := fun _ => rfl); (simp only [decide_eq_true_eq, ByteArray.size_extract, ByteArray.size_append, hone_] at *); omega)]; try with_reducible rfl)
                rotate_left
                · simp only [Act.put, List.setIfInBounds_toArray, List.set_cons_zero, List.set_cons_succ, i64_w, i32_w]
                  rfl
                refine pure_ (i := 8) (N := some 20) (v := ?_) (a' := ?_) #[true, true, true, true, false, true, true, true, true, false, false, false, false, false, false] rfl rfl (any_of HT_.out (by kernel_rfl)) (fun _ _ _ h => h) (Or.inl ⟨by rfl, ?_⟩) ?_ ?_
                rotate_left
                · intro w'
                  first | (go_simp; with_reducible rfl) | (go_simp; rw [if_neg (by (have hone_ : ∀ b : UInt8, (ByteArray.mk #[b]).size = 1 := fun _ => rfl); (simp only [decide_eq_true_eq, ByteArray.size_extract, ByteArray.size_append, hone_] at *); omega)]; try with_reducible rfl)
                rotate_left
                · simp only [Act.put, List.setIfInBounds_toArray, List.set_cons_zero, List.set_cons_succ, i64_w, i32_w]
                  rfl
                refine take_ (i := 4) (N := some 16) (v := ?_) (a' := ?_) #[true, true, true, true, true, true, true, true, true, false, false, false, false, false, false] rfl rfl (take_ofW HT_.out HW_.out (by kernel_rfl)) (fun _ _ _ h => h) (Or.inl ⟨by rfl, ?_⟩) hHeld ?_ ?_
                rotate_left
                · rintro w' ⟨s0, s1⟩
                  go_simp
                  with_reducible rfl
                rotate_left
                · simp only [Act.put, List.setIfInBounds_toArray, List.set_cons_zero, List.set_cons_succ, i64_w, i32_w]
                  rfl
                refine take_ (i := 9) (N := some 21) (v := ?_) (a' := ?_) #[true, true, true, true, true, true, true, true, true, true, false, false, false, false, false] rfl rfl (take_ofW HT_.out HW_.out (by kernel_rfl)) (fun _ _ _ h => h) (Or.inl ⟨by rfl, ?_⟩) hHeld ?_ ?_
                rotate_left
                · rintro w' ⟨s0, s1⟩
                  go_simp
                  with_reducible rfl
                rotate_left
                · simp only [Act.put, List.setIfInBounds_toArray, List.set_cons_zero, List.set_cons_succ, i64_w, i32_w]
                  rfl
                refine one_ (i := 10) (N := some 22) #[true, true, true, true, true, true, true, true, true, true, true, false, false, false, false] rfl rfl (one_of HT_.out (by kernel_rfl)) (by decide) (fun K hK => ?_)
                refine Kd.R_lit_step Kd.string _ 9 ?hg (N := 22) ?hd (xs := ([(⟨#[110, 111, 100, 101]⟩ : ByteArray), rdOf ByteArray.empty l0 x4_1, rdOf ByteArray.empty l0 (ji5)] : List ByteArray)) (inner := [.string (⟨#[110, 111, 100, 101]⟩ : ByteArray), .string (rdOf ByteArray.empty l0 x4_1), .string (rdOf ByteArray.empty l0 (ji5))]) (ok := fun _ => True) (okp := fun _ => True) ?hr ?hp (fun _ hk => hk) trivial (Below.refl _ _) (Nat.le_refl _) (by simp) ?_; (case hd => rfl); (case hg => rfl); (case hr => first | (go_simp; done) | (go_simp; rfl)); (case hp => exact (Reps.one (show Kd.M Kd.string _ _ _ (⟨#[110, 111, 100, 101]⟩ : ByteArray) [.string (⟨#[110, 111, 100, 101]⟩ : ByteArray)] from rfl) (Reps.one (show Kd.M Kd.string _ _ _ (rdOf ByteArray.empty l0 x4_1) [.string (rdOf ByteArray.empty l0 x4_1)] from rfl) (Reps.one (show Kd.M Kd.string _ _ _ (rdOf ByteArray.empty l0 (ji5)) [.string (rdOf ByteArray.empty l0 (ji5))] from rfl) (Reps.none _ _)))))
                intro v146 w10 ho11 hb hg_ hnew_
                clear hg_ hnew_
                (first | rw [← Ny145.out] at ho11 | (simp only [Int.reduceToNat] at ho11; rw [← Ny145.out] at ho11))
                have n0_ := Aside0.mk (Kd.R_elder' (by (with_reducible repeat (first | apply Kd.R_alloc | apply Kd.R_drewN | apply Kd.R_drew)); exact HO_3.out) (Kd.R_base ho11) hb)
                have n1_ := Aside0.mk (Kd.R_lower (Kd.R_new' ho11 (Kd.R_lt (by (with_reducible repeat (first | apply Kd.R_alloc | apply Kd.R_drewN | apply Kd.R_drew)); exact HO_3.out))) (below_size (by repeat (first | (with_reducible first | exact HB.out | apply below_alloc | apply pw_below_drewN | apply below_drew1) | exact HB.out))))
                have n2_ := Aside0.mk (below_step (by repeat (first | (with_reducible first | exact HB.out | apply below_alloc | apply pw_below_drewN | apply below_drew1) | exact HB.out)) hb)
                clear HO_3
                clear HB
                have HO_3 := n0_
                have HO147 := n1_
                have HB := n2_
                clear n0_ n1_ n2_
                clear hb ho11
                obtain ⟨Ao12, co12, eo12⟩ := Kd.R_slice HO147.out
                (first | subst eo12 | (injection eo12 with f1_ f2_ f3_; have f4_ := f1_.symm; have f5_ := f3_.symm; clear f1_ f2_ f3_; subst f4_; subst f5_))
                refine hK.out _ _ ⟨((HB.out.cell (World.block_lt_of_cell? w _ hw143_0)).trans hw143_0), ((HB.out.cell (World.block_lt_of_cell? w _ hw144_0)).trans hw144_0)⟩ (fun hHeld => ?_)
                clear hK K
                refine norm_ (a' := ?_) ?_ ?_
                rotate_left
                · show Act.put _ (some 22) _ = _
                  simp only [Act.put, List.setIfInBounds_toArray, List.set_cons_zero, List.set_cons_succ, i64_w, i32_w]
                  rfl
                refine one_ (i := 11) (N := some 23) #[true, true, true, true, true, true, true, true, true, true, true, true, false, false, false] rfl rfl (one_of HT_.out (by kernel_rfl)) (by decide) (fun K hK => ?_)
                refine goes_ Tryd.func20 (by kernel_rfl) rfl #[.slice Ao12 y145.length co12] (by rfl) rfl rfl (by (try simp only [List.map_toArray, List.map_cons, List.map_nil]); first | done | rfl | (simp only [List.length_drop, List.length_take]; rfl)) ?_
                with_reducible refine (planisphereref01_List.calls _ _ y145 t148 _ ?side1 ?side2 A7.out).mono ?_
                (case side1 => repeat (first | exact (Kd.R_reads' HO147.out).2.2 | (with_reducible refine Kd.C_alloc ?_ _) | (with_reducible refine Kd.C_drewN ?_ _) | (with_reducible refine Kd.C_drew ?_)))
                (case side2 => exact (Kd.R_reads' HO147.out).2.1)
                rintro e w13 ⟨rfl, hb⟩
                refine ⟨_, rfl, ?_⟩
                have n0_ := Aside0.mk (Kd.R_below (by (with_reducible repeat (first | apply Kd.R_alloc | apply Kd.R_drewN | apply Kd.R_drew)); exact HO_3.out) hb)
                have n1_ := Aside0.mk (Kd.R_below (by (with_reducible repeat (first | apply Kd.R_alloc | apply Kd.R_drewN | apply Kd.R_drew)); exact HO147.out) hb)
                have n2_ := Aside0.mk (below_step (by repeat (first | (with_reducible first | exact HB.out | apply below_alloc | apply pw_below_drewN | apply below_drew1) | exact HB.out)) hb)
                clear HO_3
                clear HO147
                clear HB
                have HO_3 := n0_
                have HO147 := n1_
                have HB := n2_
                clear n0_ n1_ n2_
                (try clear hb)
                (try clear hb2)
                (try clear hk)
                (try clear hi)
                refine hK.out _ _ ⟨((HB.out.cell (World.block_lt_of_cell? w _ hw143_0)).trans hw143_0), ((HB.out.cell (World.block_lt_of_cell? w _ hw144_0)).trans hw144_0)⟩ (fun hHeld => ?_)
                clear hK K
                refine norm_ (a' := ?_) ?_ ?_
                rotate_left
                · show Act.put _ (some 23) _ = _
                  simp only [Act.put, List.setIfInBounds_toArray, List.set_cons_zero, List.set_cons_succ, i64_w, i32_w]
                  rfl
                refine one_ (i := 12) (N := some 24) #[true, true, true, true, true, true, true, true, true, true, true, true, true, false, false] rfl rfl (one_of HT_.out (by kernel_rfl)) (by decide) (fun K hK => ?_)
                refine value_ (w1 := ?_) (v := ?_) (by rfl) rfl ?_ ?_
                rotate_left 2
                · go_simp
                  constructor
                  · rfl
                  · rfl
                refine hK.out _ _ ⟨(World.cell?_alloc_lt _ _ _ (World.block_lt_of_cell? _ _ (((HB.out.cell (World.block_lt_of_cell? w _ hw143_0)).trans hw143_0)))).trans (((HB.out.cell (World.block_lt_of_cell? w _ hw143_0)).trans hw143_0)), (World.cell?_alloc_lt _ _ _ (World.block_lt_of_cell? _ _ (((HB.out.cell (World.block_lt_of_cell? w _ hw144_0)).trans hw144_0)))).trans (((HB.out.cell (World.block_lt_of_cell? w _ hw144_0)).trans hw144_0))⟩ (fun hHeld => ?_)
                clear hK K
                refine norm_ (a' := ?_) ?_ ?_
                rotate_left
                · show Act.put _ (some 24) _ = _
                  simp only [Act.put, List.setIfInBounds_toArray, List.set_cons_zero, List.set_cons_succ, i64_w, i32_w]
                  rfl
                refine one_ (i := 13) (N := some 25) #[true, true, true, true, true, true, true, true, true, true, true, true, true, true, false] rfl rfl (one_of HT_.out (by kernel_rfl)) (by decide) (fun K hK => ?_)
                refine Kd.R_append_step Kd.string (w0 := w) w.heap.size (by rfl) (.tmp 12) (.tmp 24) 22 9 (.string ⟨#[]⟩) 16 rfl Tryd.underlying22 info9 rfl (by decide) (by omega) u3 x3_1 t148 [.string t148] (fun k_ => some k_ ≠ (.slice Ao12 y145.length co12 : Value).ownBlock) (fun _ => False) rfl rfl ?aP (fun _ hk => hk.elim) ?aF ?aO ?aB ?aS ?aL ?_
                (case aP => exact rfl)
                (case aB => exact (by repeat (first | (with_reducible first | exact HB.out | apply below_alloc | apply pw_below_drewN | apply below_drew1) | exact HB.out)))
                (case aF => exact (fun k_ hk => Kd.fresh' (Kd.R_lt (by (with_reducible repeat (first | apply Kd.R_alloc | apply Kd.R_drewN | apply Kd.R_drew)); exact HO147.out)) k_ hk))
                (case aO => exact (by (with_reducible repeat (first | apply Kd.R_alloc | apply Kd.R_drewN | apply Kd.R_drew)); exact Kd.R_mono HO_3.out (fun _ hk => hk.2)))
                (case aS => exact (below_size (by repeat (first | (with_reducible first | exact HB.out | apply below_alloc | apply pw_below_drewN | apply below_drew1) | exact HB.out))))
                (case aL => have := LMc8.out; omega)
                intro v150 w14 ho hb hg hat
                rw [← Ny149.out] at ho
                have n0_ := Aside0.mk (Kd.R_after (ok := (fun _ => True)) (by (with_reducible repeat (first | apply Kd.R_alloc | apply Kd.R_drewN | apply Kd.R_drew)); exact HO147.out) hg hat)
                have n1_ := Aside0.mk (hb)
                have n2_ := Aside0.mk (ho)
                clear HO147
                clear HB
                clear HO_3
                have HO147 := n0_
                have HB := n1_
                have HO151 := n2_
                clear n0_ n1_ n2_
                clear ho hb hg hat
                refine hK.out _ _ ⟨((HB.out.cell (World.block_lt_of_cell? w _ hw143_0)).trans hw143_0), ((HB.out.cell (World.block_lt_of_cell? w _ hw144_0)).trans hw144_0)⟩ (fun hHeld => ?_)
                clear hK K
                refine norm_ (a' := ?_) ?_ ?_
                rotate_left
                · show Act.put _ (some 25) _ = _
                  simp only [Act.put, List.setIfInBounds_toArray, List.set_cons_zero, List.set_cons_succ, i64_w, i32_w]
                  rfl
                refine pure_ (i := 14) (N := some 3) (v := ?_) (a' := ?_) #[true, true, true, true, true, true, true, true, true, true, true, true, true, true, true] rfl rfl (any_of HT_.out (by kernel_rfl)) (fun _ _ _ h => h) (Or.inl ⟨by rfl, ?_⟩) ?_ ?_
                rotate_left
                · intro w'
                  first | (go_simp; with_reducible rfl) | (go_simp; rw [if_neg (by (have hone_ : ∀ b : UInt8, (ByteArray.mk #[b]).size = 1 := fun _ => rfl); (simp only [decide_eq_true_eq, ByteArray.size_extract, ByteArray.size_append, hone_] at *); omega)]; try with_reducible rfl)
                rotate_left
                · simp only [Act.put, List.setIfInBounds_toArray, List.set_cons_zero, List.set_cons_succ, i64_w, i32_w]
                  rfl
                refine done_ (done_of HT_.out (by kernel_rfl)) ?_
                try go_wp2
                go_roundg k1
                case measure => have := HK1.out; omega
                case rel => exact ⟨(y149), (wrap64 (x4_1 + 2)), (by first | rfl | (simp; done) | (simp [*]; done)), H', ⟨by have := HK1.out; omega⟩, ⟨by (with_reducible repeat (first | apply Kd.R_alloc | apply Kd.R_drewN | apply Kd.R_drew)); exact Kd.R_mono HO151.out (fun _ hk => trivial)⟩, ⟨by repeat (first | (with_reducible first | exact HB.out | apply below_alloc | apply pw_below_drewN | apply below_drew1) | exact HB.out)⟩⟩
              · rw [if_neg c8] at H
                exact absurd H (by simp)
            · rw [if_neg c6] at H
              exact absurd H (by simp)
          · rw [if_neg c4] at H
            exact absurd H (by simp)
        · rw [if_neg c3] at H
          exact absurd H (by simp)
      · rw [if_neg c2] at H
        have c2b0 : decide ((wrap64 (x4_1 + 1)) < (l0.length : Int)) = false := decide_eq_false c2
        clear c2
        obtain rfl := Option.some.inj H
        go_wp2
        go_ret
        exact ⟨_, by first | rfl | (simp [errW_none, errW_some] <;> rfl) | (simp [*, errW_none, errW_some] <;> rfl), by (with_reducible repeat (first | apply Kd.R_alloc | apply Kd.R_drewN | apply Kd.R_drew)); exact HO_3.out, by repeat (first | (with_reducible first | exact HB.out | apply below_alloc | apply pw_below_drewN | apply below_drew1) | exact HB.out)⟩
def seal_start.f (a0 : ByteArray) (a1 : Int) (a2 : Int) : Option (ByteArray) := (strconv_Itoa.f a1).bind fun t152 => ((strconv_Itoa.f a2).bind fun t153 => ((seal_of.f (([a0, t152, t153] : List ByteArray))).bind fun t157 => (some t157)))
set_option maxHeartbeats 8000000 in
set_option maxRecDepth 100000 in
theorem seal_start.calls (a0 : ByteArray) (a1 : Int) (a2 : Int) (r : ByteArray) (w : World) (h : seal_start.f a0 a1 a2 = some r) (hG : Glob w) :
    Calls Tryd.prog 54 #[.string a0, .int .i64 a1, .int .i64 a2] w fun e w' => e = .returned (.string r) ∧ Below w.heap.size w w' := by
  have HG_ := Aside0.mk hG
  clear hG
  have HB := Aside0.mk (Below.refl w.heap.size w)
  have H : ((strconv_Itoa.f a1).bind fun t152 => ((strconv_Itoa.f a2).bind fun t153 => ((seal_of.f (([a0, t152, t153] : List ByteArray))).bind fun t157 => (some t157)))) = some r := h
  clear h
  replace H := Option.bind_eq_some_iff.mp H
  obtain ⟨t152, A40, H⟩ := H
  replace H : ((strconv_Itoa.f a2).bind fun t153 => ((seal_of.f (([a0, t152, t153] : List ByteArray))).bind fun t157 => (some t157))) = some r := H
  have A4 := Aside0.mk A40
  clear A40
  replace H := Option.bind_eq_some_iff.mp H
  obtain ⟨t153, A50, H⟩ := H
  replace H : ((seal_of.f (([a0, t152, t153] : List ByteArray))).bind fun t157 => (some t157)) = some r := H
  have A5 := Aside0.mk A50
  clear A50
  obtain ⟨y154, hy154⟩ : ∃ y_ : List ByteArray, y_ = (([a0, t152, t153] : List ByteArray)) := ⟨_, rfl⟩
  replace H : ((seal_of.f y154).bind fun t157 => (some t157)) = some r := by first | (rw [hy154]; with_reducible exact H) | (have H2_ := (Option.bind_some _ _).symm.trans H; rw [hy154]; with_reducible exact H2_) | (have H2_ := (Option.bind_some _ _).symm.trans H; with_reducible exact H2_) | with_reducible exact H | (rw [hy154]; exact H) | exact H
  have Ny154 := Aside0.mk hy154
  clear hy154
  replace H := Option.bind_eq_some_iff.mp H
  obtain ⟨t157, A60, H⟩ := H
  replace H : (some t157) = some r := H
  have A6 := Aside0.mk A60
  clear A60
  obtain rfl := Option.some.inj H
  go_enter Tryd.func54, Tryd.ntmps54
  go_wp2_with (first | ((with_reducible refine gate_callee (f := 43) rfl ?_); refine goesL_ (some 9) rfl rfl Tryd.func43 (by kernel_rfl) rfl #[.int .i64 a1] rfl (by (try simp only [List.map_toArray, List.map_cons, List.map_nil]); first | done | rfl | (simp only [List.length_drop, List.length_take]; rfl)) ?_; (with_reducible refine (strconv_Itoa.calls a1 t152 _ A4.out (hG := ?hGl)).mono ?_); clear A4; (case hGl => exact (Glob.below HG_.out (by repeat (first | (with_reducible first | exact HB.out | apply below_alloc | apply pw_below_drewN | apply below_drew1) | exact HB.out)))); rintro e w7 ⟨rfl, hb⟩; refine ⟨_, rfl, ?_⟩; have n0_ := Aside0.mk (below_step (by repeat (first | (with_reducible first | exact HB.out | apply below_alloc | apply pw_below_drewN | apply below_drew1) | exact HB.out)) hb); clear HB; have HB := n0_; clear n0_; (try clear hb); (try clear hb2); (try clear hk); (try clear hi)) | ((with_reducible refine gate_callee (f := 43) rfl ?_); refine goesL_ (some 11) rfl rfl Tryd.func43 (by kernel_rfl) rfl #[.int .i64 a2] rfl (by (try simp only [List.map_toArray, List.map_cons, List.map_nil]); first | done | rfl | (simp only [List.length_drop, List.length_take]; rfl)) ?_; (with_reducible refine (strconv_Itoa.calls a2 t153 _ A5.out (hG := ?hGl)).mono ?_); clear A5; (case hGl => exact (Glob.below HG_.out (by repeat (first | (with_reducible first | exact HB.out | apply below_alloc | apply pw_below_drewN | apply below_drew1) | exact HB.out)))); rintro e w8 ⟨rfl, hb⟩; refine ⟨_, rfl, ?_⟩; have n0_ := Aside0.mk (below_step (by repeat (first | (with_reducible first | exact HB.out | apply below_alloc | apply pw_below_drewN | apply below_drew1) | exact HB.out)) hb); clear HB; have HB := n0_; clear n0_; (try clear hb); (try clear hb2); (try clear hk); (try clear hi)) | ((with_reducible refine gate_dst (N := 12) rfl ?_); refine Kd.R_lit Kd.string _ 9 ?hg (N := 12) ?hd (xs := ([a0, t152, t153] : List ByteArray)) (inner := [.string a0, .string t152, .string t153]) (ok := fun _ => True) (okp := fun _ => True) ?hr ?hp (fun _ hk => hk) trivial (Below.refl _ _) (Nat.le_refl _) (by simp) ?_; (case hd => rfl); (case hg => rfl); (case hr => first | (go_simp; done) | (go_simp; rfl)); (case hp => exact (Reps.one (show Kd.M Kd.string _ _ _ a0 [.string a0] from rfl) (Reps.one (show Kd.M Kd.string _ _ _ t152 [.string t152] from rfl) (Reps.one (show Kd.M Kd.string _ _ _ t153 [.string t153] from rfl) (Reps.none _ _))))); intro v155 w9 ho10 hb hg_ hnew_; clear hg_ hnew_; (first | rw [← Ny154.out] at ho10 | (simp only [Int.reduceToNat] at ho10; rw [← Ny154.out] at ho10)); have n0_ := Aside0.mk (Kd.R_lower ho10 (below_size (by repeat (first | (with_reducible first | exact HB.out | apply below_alloc | apply pw_below_drewN | apply below_drew1) | exact HB.out)))); have n1_ := Aside0.mk (below_step (by repeat (first | (with_reducible first | exact HB.out | apply below_alloc | apply pw_below_drewN | apply below_drew1) | exact HB.out)) hb); clear HB; have HO156 := n0_; have HB := n1_; clear n0_ n1_; clear hb ho10; obtain ⟨Ao11, co11, eo11⟩ := Kd.R_slice HO156.out; subst eo11) | ((with_reducible refine gate_callee (f := 63) rfl ?_); refine goesL_ (some 13) rfl rfl Tryd.func63 (by kernel_rfl) rfl #[.slice Ao11 y154.length co11] rfl (by (try simp only [List.map_toArray, List.map_cons, List.map_nil]); first | done | rfl | (simp only [List.length_drop, List.length_take]; rfl)) ?_; (with_reducible refine (seal_of.calls _ _ y154 t157 _ ?side1 ?side2 A6.out (hG := ?hGl)).mono ?_); clear A6; (case hGl => exact (Glob.below HG_.out (by repeat (first | (with_reducible first | exact HB.out | apply below_alloc | apply pw_below_drewN | apply below_drew1) | exact HB.out)))); (case side1 => repeat (first | exact (Kd.R_reads' HO156.out).2.2 | (with_reducible refine Kd.C_alloc ?_ _) | (with_reducible refine Kd.C_drewN ?_ _) | (with_reducible refine Kd.C_drew ?_))); (case side2 => exact (Kd.R_reads' HO156.out).2.1); rintro e w12 ⟨rfl, hb⟩; refine ⟨_, rfl, ?_⟩; have n0_ := Aside0.mk (Kd.R_below (by (with_reducible repeat (first | apply Kd.R_alloc | apply Kd.R_drewN | apply Kd.R_drew)); exact HO156.out) hb); have n1_ := Aside0.mk (below_step (by repeat (first | (with_reducible first | exact HB.out | apply below_alloc | apply pw_below_drewN | apply below_drew1) | exact HB.out)) hb); clear HO156; clear HB; have HO156 := n0_; have HB := n1_; clear n0_ n1_; (try clear hb); (try clear hb2); (try clear hk); (try clear hi)))
  go_ret
  exact ⟨by first | rfl | (simp [errW_none, errW_some] <;> rfl) | (simp [*, errW_none, errW_some] <;> rfl), by repeat (first | (with_reducible first | exact HB.out | apply below_alloc | apply pw_below_drewN | apply below_drew1) | exact HB.out)⟩
def seal_key.l0 : Nat → ByteArray → Int → List ByteArray → Int → Option (ByteArray)
  | 0, _, _, _, _ => none
  | k + 1, x0, x1, x5, x7 => if x7 < 18 then ((seal_start.f x0 x1 x7).bind fun t158 => ((seal_chain.f t158 15).bind fun t159 => (if x5.length < 8796093022208 then (seal_key.l0 k x0 x1 (x5 ++ [t159]) (wrap64 (x7 + 1))) else (none)))) else ((seal_of.f x5).bind fun t163 => (some t163))
def seal_key.f (k : Nat) (a0 : ByteArray) (a1 : Int) : Option (ByteArray) := seal_key.l0 k a0 a1 ([] : List ByteArray) 0
set_option maxHeartbeats 8000000 in
set_option maxRecDepth 100000 in
theorem seal_key.calls (k : Nat) (a0 : ByteArray) (a1 : Int) (r : ByteArray) (w : World) (h : seal_key.f k a0 a1 = some r) (hG : Glob w) :
    Calls Tryd.prog 79 #[.string a0, .int .i64 a1] w fun e w' => e = .returned (.string r) ∧ Below w.heap.size w w' := by
  have HG_ := Aside0.mk hG
  clear hG
  have HB := Aside0.mk (Below.refl w.heap.size w)
  have H : (seal_key.l0 k a0 a1 ([] : List ByteArray) 0) = some r := h
  clear h
  have H' := Aside0.mk H
  clear H
  go_enter Tryd.func79, Tryd.ntmps79
  go_wp2
  go_loopg [5, 7] k (fun kq v5 v7 w' => ∃ (x5_1 : List ByteArray) (x7_1 : Int), v7 = .int .i64 x7_1 ∧ Aside0 (seal_key.l0 kq a0 a1 x5_1 x7_1 = some r) ∧ Aside0 (kq ≤ k) ∧ Aside0 (Kd.R Kd.string 9 w' w.heap.size (fun _ => True) v5 x5_1) ∧ Aside0 (Below w.heap.size w w'))
  case atStart => exact ⟨(([] : List ByteArray)), (0), (by first | rfl | (simp; done) | (simp [*]; done)), H', ⟨Nat.le_refl _⟩, ⟨by first | exact Kd.R_nil _ _ _ _ _ | exact Kd.N_nil _ _ _ _ _ | exact Kd.V_nil _ _ _ _ _ | exact Kd.Q_nil _ _ _ _ _ | exact Kd.S_nil _ _ _ _ _⟩, ⟨by repeat (first | (with_reducible first | exact HB.out | apply below_alloc | apply pw_below_drewN | apply below_drew1) | exact HB.out)⟩⟩
  case round =>
    clear H'
    try clear p2
    obtain ⟨x5_1, x7_1, rfl, HA, HK1, HO_5, HB⟩ := hrel
    cases gk with
    | zero => exact absurd HA.out (by simp [seal_key.l0])
    | succ k1 =>
      have H := HA.out
      clear HA
      simp only [seal_key.l0] at H
      by_cases c3 : x7_1 < 18
      · rw [if_pos c3] at H
        have c3b0 : decide (x7_1 < 18) = true := decide_eq_true c3
        clear c3
        replace H := Option.bind_eq_some_iff.mp H
        obtain ⟨t158, A40, H⟩ := H
        replace H : ((seal_chain.f t158 15).bind fun t159 => (if x5_1.length < 8796093022208 then (seal_key.l0 k1 a0 a1 (x5_1 ++ [t159]) (wrap64 (x7_1 + 1))) else (none))) = some r := H
        have A4 := Aside0.mk A40
        clear A40
        replace H := Option.bind_eq_some_iff.mp H
        obtain ⟨t159, A50, H⟩ := H
        replace H : (if x5_1.length < 8796093022208 then (seal_key.l0 k1 a0 a1 (x5_1 ++ [t159]) (wrap64 (x7_1 + 1))) else (none)) = some r := H
        have A5 := Aside0.mk A50
        clear A50
        by_cases c6 : x5_1.length < 8796093022208
        · rw [if_pos c6] at H
          have LMc6 := Aside0.mk c6
          clear c6
          obtain ⟨y160, hy160⟩ : ∃ y_ : List ByteArray, y_ = (x5_1 ++ [t159]) := ⟨_, rfl⟩
          replace H : (seal_key.l0 k1 a0 a1 y160 (wrap64 (x7_1 + 1))) = some r := by first | (rw [hy160]; with_reducible exact H) | (have H2_ := (Option.bind_some _ _).symm.trans H; rw [hy160]; with_reducible exact H2_) | (have H2_ := (Option.bind_some _ _).symm.trans H; with_reducible exact H2_) | with_reducible exact H | (rw [hy160]; exact H) | exact H
          have Ny160 := Aside0.mk hy160
          clear hy160
          have H' := Aside0.mk H
          clear H
          go_wp2_with (first | ((with_reducible refine gate_callee (f := 54) rfl ?_); refine goesL_ (some 14) rfl rfl Tryd.func54 (by kernel_rfl) rfl #[.string a0, .int .i64 a1, .int .i64 x7_1] rfl (by (try simp only [List.map_toArray, List.map_cons, List.map_nil]); first | done | rfl | (simp only [List.length_drop, List.length_take]; rfl)) ?_; (with_reducible refine (seal_start.calls a0 a1 x7_1 t158 _ A4.out (hG := ?hGl)).mono ?_); (case hGl => exact (Glob.below HG_.out (by repeat (first | (with_reducible first | exact HB.out | apply below_alloc | apply pw_below_drewN | apply below_drew1) | exact HB.out)))); rintro e w7 ⟨rfl, hb⟩; refine ⟨_, rfl, ?_⟩; have n0_ := Aside0.mk (Kd.R_below (by (with_reducible repeat (first | apply Kd.R_alloc | apply Kd.R_drewN | apply Kd.R_drew)); exact HO_5.out) hb); have n1_ := Aside0.mk (below_step (by repeat (first | (with_reducible first | exact HB.out | apply below_alloc | apply pw_below_drewN | apply below_drew1) | exact HB.out)) hb); clear HO_5; clear HB; have HO_5 := n0_; have HB := n1_; clear n0_ n1_; (try clear hb); (try clear hb2); (try clear hk); (try clear hi)) | ((with_reducible refine gate_callee (f := 53) rfl ?_); refine goesL_ (some 15) rfl rfl Tryd.func53 (by kernel_rfl) rfl #[.string t158, .int .i64 15] rfl (by (try simp only [List.map_toArray, List.map_cons, List.map_nil]); first | done | rfl | (simp only [List.length_drop, List.length_take]; rfl)) ?_; (with_reducible refine (seal_chain.calls t158 15 t159 _ A5.out).mono ?_); clear A5; rintro e w8 ⟨rfl, hb⟩; refine ⟨_, rfl, ?_⟩; have n0_ := Aside0.mk (Kd.R_below (by (with_reducible repeat (first | apply Kd.R_alloc | apply Kd.R_drewN | apply Kd.R_drew)); exact HO_5.out) hb); have n1_ := Aside0.mk (below_step (by repeat (first | (with_reducible first | exact HB.out | apply below_alloc | apply pw_below_drewN | apply below_drew1) | exact HB.out)) hb); clear HO_5; clear HB; have HO_5 := n0_; have HB := n1_; clear n0_ n1_; (try clear hb); (try clear hb2); (try clear hk); (try clear hi)) | ((with_reducible refine gate_builtin (b := .append) (xs := #[.tmp 10, .tmp 16]) rfl ?_); at_builtin; refine Kd.R_append Kd.string (w0 := w) w.heap.size rfl (.tmp 10) (.tmp 16) 22 9 (.string ⟨#[]⟩) 16 rfl Tryd.underlying22 info9 rfl (by decide) (by omega) u5 x5_1 t159 [.string t159] (fun _ => True) (fun _ => False) rfl rfl ?aP (fun _ hk => hk.elim) ?aF ?aO ?aB ?aS ?aL ?_; (case aP => exact rfl); (case aB => exact (by repeat (first | (with_reducible first | exact HB.out | apply below_alloc | apply pw_below_drewN | apply below_drew1) | exact HB.out))); (case aF => exact (fun _ _ => trivial)); (case aO => exact (by (with_reducible repeat (first | apply Kd.R_alloc | apply Kd.R_drewN | apply Kd.R_drew)); exact HO_5.out)); (case aS => exact (below_size (by repeat (first | (with_reducible first | exact HB.out | apply below_alloc | apply pw_below_drewN | apply below_drew1) | exact HB.out)))); (case aL => have := LMc6.out; omega); intro v161 w9 ho hb hg hat; rw [← Ny160.out] at ho; have n0_ := Aside0.mk (hb); have n1_ := Aside0.mk (ho); clear HB; clear HO_5; have HB := n0_; have HO162 := n1_; clear n0_ n1_; clear ho hb hg hat))
          go_roundg k1
          case measure => have := HK1.out; omega
          case rel => exact ⟨(y160), (wrap64 (x7_1 + 1)), (by first | rfl | (simp; done) | (simp [*]; done)), H', ⟨by have := HK1.out; omega⟩, ⟨by (with_reducible repeat (first | apply Kd.R_alloc | apply Kd.R_drewN | apply Kd.R_drew)); exact HO162.out⟩, ⟨by repeat (first | (with_reducible first | exact HB.out | apply below_alloc | apply pw_below_drewN | apply below_drew1) | exact HB.out)⟩⟩
        · rw [if_neg c6] at H
          exact absurd H (by simp)
      · rw [if_neg c3] at H
        have c3b0 : decide (x7_1 < 18) = false := decide_eq_false c3
        clear c3
        replace H := Option.bind_eq_some_iff.mp H
        obtain ⟨t163, A100, H⟩ := H
        replace H : (some t163) = some r := H
        have A10 := Aside0.mk A100
        clear A100
        obtain rfl := Option.some.inj H
        obtain ⟨Ao11, co11, eo11⟩ := Kd.R_slice HO_5.out
        subst eo11
        go_wp2_with (first | ((with_reducible refine gate_callee (f := 63) rfl ?_); refine goesL_ (some 20) rfl rfl Tryd.func63 (by kernel_rfl) rfl #[.slice Ao11 x5_1.length co11] rfl (by (try simp only [List.map_toArray, List.map_cons, List.map_nil]); first | done | rfl | (simp only [List.length_drop, List.length_take]; rfl)) ?_; (with_reducible refine (seal_of.calls _ _ x5_1 t163 _ ?side1 ?side2 A10.out (hG := ?hGl)).mono ?_); clear A10; (case hGl => exact (Glob.below HG_.out (by repeat (first | (with_reducible first | exact HB.out | apply below_alloc | apply pw_below_drewN | apply below_drew1) | exact HB.out)))); (case side1 => repeat (first | exact (Kd.R_reads' HO_5.out).2.2 | (with_reducible refine Kd.C_alloc ?_ _) | (with_reducible refine Kd.C_drewN ?_ _) | (with_reducible refine Kd.C_drew ?_))); (case side2 => exact (Kd.R_reads' HO_5.out).2.1); rintro e w12 ⟨rfl, hb⟩; refine ⟨_, rfl, ?_⟩; have n0_ := Aside0.mk (Kd.R_below (by (with_reducible repeat (first | apply Kd.R_alloc | apply Kd.R_drewN | apply Kd.R_drew)); exact HO_5.out) hb); have n1_ := Aside0.mk (below_step (by repeat (first | (with_reducible first | exact HB.out | apply below_alloc | apply pw_below_drewN | apply below_drew1) | exact HB.out)) hb); clear HO_5; clear HB; have HO_5 := n0_; have HB := n1_; clear n0_ n1_; (try clear hb); (try clear hb2); (try clear hk); (try clear hi)))
        go_ret
        exact ⟨by first | rfl | (simp [errW_none, errW_some] <;> rfl) | (simp [*, errW_none, errW_some] <;> rfl), by repeat (first | (with_reducible first | exact HB.out | apply below_alloc | apply pw_below_drewN | apply below_drew1) | exact HB.out)⟩
end Go.Proofs.YteleheamnighkaaDoor.PCb
end
section
namespace Go.Proofs.YteleheamnighkaaDoor.PCb
open Go.RowKit Go.Proofs.YteleheamnighkaaDoorW.PrintWords Go.Proofs.YteleheamnighkaaDoorW.PrintLast Go.Proofs.YteleheamnighkaaDoorW.PrintMore
attribute [local go_sem] max2_int min2_int max_two min_two max_three min_three max_four min_four   -- for this text's walks alone
set_option linter.unusedVariables false
set_option linter.unusedSimpArgs false
def seal_node.f (a0 : ByteArray) (a1 : ByteArray) (a2 : Bool) : Option (ByteArray) := if a2 = true then ((seal_of.f (([(⟨#[110, 111, 100, 101]⟩ : ByteArray), a1, a0] : List ByteArray))).bind fun t167 => (some t167)) else ((seal_of.f (([(⟨#[110, 111, 100, 101]⟩ : ByteArray), a0, a1] : List ByteArray))).bind fun t171 => (some t171))
set_option maxHeartbeats 8000000 in
set_option maxRecDepth 100000 in
theorem seal_node.calls (a0 : ByteArray) (a1 : ByteArray) (a2 : Bool) (r : ByteArray) (w : World) (h : seal_node.f a0 a1 a2 = some r) (hG : Glob w) :
    Calls Tryd.prog 64 #[.string a0, .string a1, .bool a2] w fun e w' => e = .returned (.string r) ∧ Below w.heap.size w w' := by
  have HG_ := Aside0.mk hG
  clear hG
  have HB := Aside0.mk (Below.refl w.heap.size w)
  have H : (if a2 = true then ((seal_of.f (([(⟨#[110, 111, 100, 101]⟩ : ByteArray), a1, a0] : List ByteArray))).bind fun t167 => (some t167)) else ((seal_of.f (([(⟨#[110, 111, 100, 101]⟩ : ByteArray), a0, a1] : List ByteArray))).bind fun t171 => (some t171))) = some r := h
  clear h
  by_cases c4 : a2 = true
  · subst c4
    have H1 : ((seal_of.f (([(⟨#[110, 111, 100, 101]⟩ : ByteArray), a1, a0] : List ByteArray))).bind fun t167 => (some t167)) = some r := by rw [if_pos rfl] at H; exact H
    clear H
    have H := H1
    clear H1
    obtain ⟨y164, hy164⟩ : ∃ y_ : List ByteArray, y_ = (([(⟨#[110, 111, 100, 101]⟩ : ByteArray), a1, a0] : List ByteArray)) := ⟨_, rfl⟩
    replace H : ((seal_of.f y164).bind fun t167 => (some t167)) = some r := by first | (rw [hy164]; with_reducible exact H) | (have H2_ := (Option.bind_some _ _).symm.trans H; rw [hy164]; with_reducible exact H2_) | (have H2_ := (Option.bind_some _ _).symm.trans H; with_reducible exact H2_) | with_reducible exact H | (rw [hy164]; exact H) | exact H
    have Ny164 := Aside0.mk hy164
    clear hy164
    replace H := Option.bind_eq_some_iff.mp H
    obtain ⟨t167, A50, H⟩ := H
    replace H : (some t167) = some r := H
    have A5 := Aside0.mk A50
    clear A50
    obtain rfl := Option.some.inj H
    go_enter Tryd.func64, Tryd.ntmps64
    go_wp2_with (first | ((with_reducible refine gate_dst (N := 12) rfl ?_); refine Kd.R_lit Kd.string _ 9 ?hg (N := 12) ?hd (xs := ([(⟨#[110, 111, 100, 101]⟩ : ByteArray), a1, a0] : List ByteArray)) (inner := [.string (⟨#[110, 111, 100, 101]⟩ : ByteArray), .string a1, .string a0]) (ok := fun _ => True) (okp := fun _ => True) ?hr ?hp (fun _ hk => hk) trivial (Below.refl _ _) (Nat.le_refl _) (by simp) ?_; (case hd => rfl); (case hg => rfl); (case hr => first | (go_simp; done) | (go_simp; rfl)); (case hp => exact (Reps.one (show Kd.M Kd.string _ _ _ (⟨#[110, 111, 100, 101]⟩ : ByteArray) [.string (⟨#[110, 111, 100, 101]⟩ : ByteArray)] from rfl) (Reps.one (show Kd.M Kd.string _ _ _ a1 [.string a1] from rfl) (Reps.one (show Kd.M Kd.string _ _ _ a0 [.string a0] from rfl) (Reps.none _ _))))); intro v165 w6 ho7 hb hg_ hnew_; clear hg_ hnew_; (first | rw [← Ny164.out] at ho7 | (simp only [Int.reduceToNat] at ho7; rw [← Ny164.out] at ho7)); have n0_ := Aside0.mk (Kd.R_lower ho7 (below_size (by repeat (first | (with_reducible first | exact HB.out | apply below_alloc | apply pw_below_drewN | apply below_drew1) | exact HB.out)))); have n1_ := Aside0.mk (below_step (by repeat (first | (with_reducible first | exact HB.out | apply below_alloc | apply pw_below_drewN | apply below_drew1) | exact HB.out)) hb); clear HB; have HO166 := n0_; have HB := n1_; clear n0_ n1_; clear hb ho7; obtain ⟨Ao8, co8, eo8⟩ := Kd.R_slice HO166.out; subst eo8) | ((with_reducible refine gate_callee (f := 63) rfl ?_); refine goesL_ (some 13) rfl rfl Tryd.func63 (by kernel_rfl) rfl #[.slice Ao8 y164.length co8] rfl (by (try simp only [List.map_toArray, List.map_cons, List.map_nil]); first | done | rfl | (simp only [List.length_drop, List.length_take]; rfl)) ?_; (with_reducible refine (seal_of.calls _ _ y164 t167 _ ?side1 ?side2 A5.out (hG := ?hGl)).mono ?_); clear A5; (case hGl => exact (Glob.below HG_.out (by repeat (first | (with_reducible first | exact HB.out | apply below_alloc | apply pw_below_drewN | apply below_drew1) | exact HB.out)))); (case side1 => repeat (first | exact (Kd.R_reads' HO166.out).2.2 | (with_reducible refine Kd.C_alloc ?_ _) | (with_reducible refine Kd.C_drewN ?_ _) | (with_reducible refine Kd.C_drew ?_))); (case side2 => exact (Kd.R_reads' HO166.out).2.1); rintro e w9 ⟨rfl, hb⟩; refine ⟨_, rfl, ?_⟩; have n0_ := Aside0.mk (Kd.R_below (by (with_reducible repeat (first | apply Kd.R_alloc | apply Kd.R_drewN | apply Kd.R_drew)); exact HO166.out) hb); have n1_ := Aside0.mk (below_step (by repeat (first | (with_reducible first | exact HB.out | apply below_alloc | apply pw_below_drewN | apply below_drew1) | exact HB.out)) hb); clear HO166; clear HB; have HO166 := n0_; have HB := n1_; clear n0_ n1_; (try clear hb); (try clear hb2); (try clear hk); (try clear hi)))
    go_ret
    exact ⟨by first | rfl | (simp [errW_none, errW_some] <;> rfl) | (simp [*, errW_none, errW_some] <;> rfl), by repeat (first | (with_reducible first | exact HB.out | apply below_alloc | apply pw_below_drewN | apply below_drew1) | exact HB.out)⟩
  · replace c4 := Bool.eq_false_iff.mpr c4
    subst c4
    have H1 : ((seal_of.f (([(⟨#[110, 111, 100, 101]⟩ : ByteArray), a0, a1] : List ByteArray))).bind fun t171 => (some t171)) = some r := by rw [if_neg (show ¬ (false = true) by decide)] at H; exact H
    clear H
    have H := H1
    clear H1
    obtain ⟨y168, hy168⟩ : ∃ y_ : List ByteArray, y_ = (([(⟨#[110, 111, 100, 101]⟩ : ByteArray), a0, a1] : List ByteArray)) := ⟨_, rfl⟩
    replace H : ((seal_of.f y168).bind fun t171 => (some t171)) = some r := by first | (rw [hy168]; with_reducible exact H) | (have H2_ := (Option.bind_some _ _).symm.trans H; rw [hy168]; with_reducible exact H2_) | (have H2_ := (Option.bind_some _ _).symm.trans H; with_reducible exact H2_) | with_reducible exact H | (rw [hy168]; exact H) | exact H
    have Ny168 := Aside0.mk hy168
    clear hy168
    replace H := Option.bind_eq_some_iff.mp H
    obtain ⟨t171, A100, H⟩ := H
    replace H : (some t171) = some r := H
    have A10 := Aside0.mk A100
    clear A100
    obtain rfl := Option.some.inj H
    go_enter Tryd.func64, Tryd.ntmps64
    go_wp2_with (first | ((with_reducible refine gate_dst (N := 12) rfl ?_); refine Kd.R_lit Kd.string _ 9 ?hg (N := 12) ?hd (xs := ([(⟨#[110, 111, 100, 101]⟩ : ByteArray), a0, a1] : List ByteArray)) (inner := [.string (⟨#[110, 111, 100, 101]⟩ : ByteArray), .string a0, .string a1]) (ok := fun _ => True) (okp := fun _ => True) ?hr ?hp (fun _ hk => hk) trivial (Below.refl _ _) (Nat.le_refl _) (by simp) ?_; (case hd => rfl); (case hg => rfl); (case hr => first | (go_simp; done) | (go_simp; rfl)); (case hp => exact (Reps.one (show Kd.M Kd.string _ _ _ (⟨#[110, 111, 100, 101]⟩ : ByteArray) [.string (⟨#[110, 111, 100, 101]⟩ : ByteArray)] from rfl) (Reps.one (show Kd.M Kd.string _ _ _ a0 [.string a0] from rfl) (Reps.one (show Kd.M Kd.string _ _ _ a1 [.string a1] from rfl) (Reps.none _ _))))); intro v169 w11 ho12 hb hg_ hnew_; clear hg_ hnew_; (first | rw [← Ny168.out] at ho12 | (simp only [Int.reduceToNat] at ho12; rw [← Ny168.out] at ho12)); have n0_ := Aside0.mk (Kd.R_lower ho12 (below_size (by repeat (first | (with_reducible first | exact HB.out | apply below_alloc | apply pw_below_drewN | apply below_drew1) | exact HB.out)))); have n1_ := Aside0.mk (below_step (by repeat (first | (with_reducible first | exact HB.out | apply below_alloc | apply pw_below_drewN | apply below_drew1) | exact HB.out)) hb); clear HB; have HO170 := n0_; have HB := n1_; clear n0_ n1_; clear hb ho12; obtain ⟨Ao13, co13, eo13⟩ := Kd.R_slice HO170.out; subst eo13) | ((with_reducible refine gate_callee (f := 63) rfl ?_); refine goesL_ (some 13) rfl rfl Tryd.func63 (by kernel_rfl) rfl #[.slice Ao13 y168.length co13] rfl (by (try simp only [List.map_toArray, List.map_cons, List.map_nil]); first | done | rfl | (simp only [List.length_drop, List.length_take]; rfl)) ?_; (with_reducible refine (seal_of.calls _ _ y168 t171 _ ?side1 ?side2 A10.out (hG := ?hGl)).mono ?_); clear A10; (case hGl => exact (Glob.below HG_.out (by repeat (first | (with_reducible first | exact HB.out | apply below_alloc | apply pw_below_drewN | apply below_drew1) | exact HB.out)))); (case side1 => repeat (first | exact (Kd.R_reads' HO170.out).2.2 | (with_reducible refine Kd.C_alloc ?_ _) | (with_reducible refine Kd.C_drewN ?_ _) | (with_reducible refine Kd.C_drew ?_))); (case side2 => exact (Kd.R_reads' HO170.out).2.1); rintro e w14 ⟨rfl, hb⟩; refine ⟨_, rfl, ?_⟩; have n0_ := Aside0.mk (Kd.R_below (by (with_reducible repeat (first | apply Kd.R_alloc | apply Kd.R_drewN | apply Kd.R_drew)); exact HO170.out) hb); have n1_ := Aside0.mk (below_step (by repeat (first | (with_reducible first | exact HB.out | apply below_alloc | apply pw_below_drewN | apply below_drew1) | exact HB.out)) hb); clear HO170; clear HB; have HO170 := n0_; have HB := n1_; clear n0_ n1_; (try clear hb); (try clear hb2); (try clear hk); (try clear hi)))
    go_ret
    exact ⟨by first | rfl | (simp [errW_none, errW_some] <;> rfl) | (simp [*, errW_none, errW_some] <;> rfl), by repeat (first | (with_reducible first | exact HB.out | apply below_alloc | apply pw_below_drewN | apply below_drew1) | exact HB.out)⟩
end Go.Proofs.YteleheamnighkaaDoor.PCb
end
section
set_option linter.unusedVariables false
set_option linter.unusedSimpArgs false
namespace Go.Proofs.YteleheamnighkaaDoor
open Go.RowKit Go.DoorKit Go.Proofs.YteleheamnighkaaDoorW.PrintWords
def Small (n : Nat) : Prop := n ≤ 10000
instance (n : Nat) : Decidable (Small n) := inferInstanceAs (Decidable (n ≤ 10000))
def Idx (n : Int) : Prop := 0 ≤ n ∧ n ≤ 100000
instance (n : Int) : Decidable (Idx n) := inferInstanceAs (Decidable (0 ≤ n ∧ n ≤ 100000))
theorem Idx.nat {n : Int} (h : Idx n) : ∃ i : Nat, n = i ∧ i ≤ 100000 := by
  obtain ⟨i, rfl⟩ := Int.eq_ofNat_of_zero_le h.1
  exact ⟨i, rfl, by have := h.2; omega⟩
theorem dec_len {i : Nat} (h : i ≤ 100000) : (Lib.decDigits i).length ≤ 20 := by
  rw [Lib.decDigits_length]; exact Dig.nDigits_le (by decide) (Nat.lt_of_le_of_lt h (by decide))
theorem rDec {i : Nat} (h : i ≤ 100000) : planisphereref01_Decimal.f (i : Int) = some (ofT (Lib.decDigits i)) := by
  unfold planisphereref01_Decimal.f; rw [if_pos ⟨by omega, by omega⟩, Int.toNat_natCast]
theorem rItoa {i : Nat} (h : i ≤ 100000) : strconv_Itoa.f (i : Int) = some (ofT (Lib.decDigits i)) := by
  unfold strconv_Itoa.f; rw [if_pos ⟨by omega, by omega⟩, Int.toNat_natCast]
theorem rList (l : List ByteArray) (h : need l ≤ 140737488355328) : planisphereref01_List.f l = some (ofT (Dig.lst (l.map tx))) := if_pos h
theorem sOf (l : List ByteArray) (h : need l ≤ 140737488355328) : seal_of.f l = some (ofT (Dig.lst (l.map tx))) := if_pos h
theorem rChain (t : ByteArray) (n : Nat) (h : t.size ≤ 140737488355328) (hn : n ≤ 1000) : planisphereref02_chain.f t n = some (ofT (Dig.chain (tx t) n)) := by
  unfold planisphereref02_chain.f; rw [if_pos (Links.mk h (by omega) (by omega)), Int.toNat_natCast]
theorem sChain (t : ByteArray) (n : Nat) (h : t.size ≤ 140737488355328) (hn : n ≤ 1000) : seal_chain.f t n = some (ofT (Dig.chain (tx t) n)) := by
  unfold seal_chain.f; rw [if_pos (Links.mk h (by omega) (by omega)), Int.toNat_natCast]
theorem need_all {l : List ByteArray} (m n : Nat) (hm : ∀ s ∈ l, s.size ≤ m) (hn : l.length ≤ n) (h : n * (m + 21) ≤ 140737488355328) : need l ≤ 140737488355328 :=
  Nat.le_trans (Pure.need_of hm) (Nat.le_trans (Nat.mul_le_mul hn (Nat.le_refl _)) h)
theorem need3 (a b c : ByteArray) (ha : a.size ≤ 10000) (hb : b.size ≤ 10000) (hc : c.size ≤ 10000) : need [a, b, c] ≤ 140737488355328 :=
  need_all 10000 3 (by intro s hs; simp only [List.mem_cons, List.not_mem_nil, or_false] at hs; rcases hs with rfl | rfl | rfl <;> assumption) (by simp) (by decide)
theorem start_need (a0 : ByteArray) {i k : Nat} (h : a0.size ≤ 10000) (hi : i ≤ 100000) (hk : k ≤ 100000) : need [a0, ofT (Lib.decDigits i), ofT (Lib.decDigits k)] ≤ 140737488355328 :=
  need3 _ _ _ h (by rw [size_ofT]; have := dec_len hi; omega) (by rw [size_ofT]; have := dec_len hk; omega)
def startIn (a0 : ByteArray) (a1 a2 : Int) : Prop := Small a0.size ∧ Idx a1 ∧ Idx a2
instance (a0 : ByteArray) (a1 a2 : Int) : Decidable (startIn a0 a1 a2) := inferInstanceAs (Decidable (Small a0.size ∧ Idx a1 ∧ Idx a2))
def planisphereref02_Start.f (a0 : ByteArray) (a1 : Int) (a2 : Int) : Option ByteArray := if startIn a0 a1 a2 then some (ofT (Dig.start0 (tx a0) a1.toNat a2.toNat)) else none
theorem planisphereref02_Start.calls (a0 : ByteArray) (a1 : Int) (a2 : Int) (r : ByteArray) (w : World) (h : planisphereref02_Start.f a0 a1 a2 = some r) :
    Calls Tryd.prog 58 #[.string a0, .int .i64 a1, .int .i64 a2] w fun e w' => e = .returned (.string r) ∧ Below w.heap.size w w' := by
  obtain ⟨⟨hs, hI, hK⟩, rfl⟩ := if_out h
  obtain ⟨i, rfl, hi⟩ := hI.nat
  obtain ⟨k, rfl, hk⟩ := hK.nat
  refine PCb.planisphereref02_Start.calls a0 i k _ w ?_
  unfold PCb.planisphereref02_Start.f
  rw [rDec hi, Option.bind_some, rDec hk, Option.bind_some, rList _ (start_need a0 hs hi hk), Option.bind_some]; rfl
def seal_start.f (a0 : ByteArray) (a1 : Int) (a2 : Int) : Option ByteArray := if startIn a0 a1 a2 then some (ofT (Dig.start0 (tx a0) a1.toNat a2.toNat)) else none
theorem seal_start.calls (a0 : ByteArray) (a1 : Int) (a2 : Int) (r : ByteArray) (w : World) (h : seal_start.f a0 a1 a2 = some r) (hG : Glob w) :
    Calls Tryd.prog 54 #[.string a0, .int .i64 a1, .int .i64 a2] w fun e w' => e = .returned (.string r) ∧ Below w.heap.size w w' := by
  obtain ⟨⟨hs, hI, hK⟩, rfl⟩ := if_out h
  obtain ⟨i, rfl, hi⟩ := hI.nat
  obtain ⟨k, rfl, hk⟩ := hK.nat
  refine PCb.seal_start.calls a0 i k _ w ?_ hG
  unfold PCb.seal_start.f
  rw [rItoa hi, Option.bind_some, rItoa hk, Option.bind_some, sOf _ (start_need a0 hs hi hk), Option.bind_some]; rfl
theorem startP (a0 : ByteArray) (i k : Nat) (hs : a0.size ≤ 10000) (hi : i ≤ 100000) (hk : k ≤ 100000) :
    PCb.planisphereref02_Start.f a0 i k = some (ofT (Dig.start0 (tx a0) i k)) := by
  unfold PCb.planisphereref02_Start.f
  rw [rDec hi, Option.bind_some, rDec hk, Option.bind_some, rList _ (start_need a0 hs hi hk), Option.bind_some]; rfl
theorem startS (a0 : ByteArray) (i k : Nat) (hs : a0.size ≤ 10000) (hi : i ≤ 100000) (hk : k ≤ 100000) :
    PCb.seal_start.f a0 i k = some (ofT (Dig.start0 (tx a0) i k)) := by
  unfold PCb.seal_start.f
  rw [rItoa hi, Option.bind_some, rItoa hk, Option.bind_some, sOf _ (start_need a0 hs hi hk), Option.bind_some]; rfl
theorem chain_len {t : Dig.Txt} (h : t.length = 16) : ∀ n, (Dig.chain t n).length = 16
  | 0 => h
  | n + 1 => by rw [Dig.chain, Dig.sum_len]
theorem start_len (s : Dig.Txt) (i k : Nat) : (Dig.start0 s i k).length = 16 := Dig.sum_len _
def endsB (s : Dig.Txt) (i k : Nat) : List ByteArray := (List.range k).map fun j => ofT (Dig.chain (Dig.start0 s i j) 15)
theorem endsB_succ (s : Dig.Txt) (i k : Nat) : endsB s i (k + 1) = endsB s i k ++ [ofT (Dig.chain (Dig.start0 s i k) 15)] := by
  unfold endsB; rw [List.range_succ, List.map_append]; rfl
theorem endsB_len (s : Dig.Txt) (i k : Nat) : (endsB s i k).length = k := by simp [endsB]
theorem endsB_size (s : Dig.Txt) (i k : Nat) : ∀ x ∈ endsB s i k, x.size ≤ 16 := by
  intro x hx
  simp only [endsB, List.mem_map] at hx
  obtain ⟨j, _, rfl⟩ := hx
  rw [size_ofT, chain_len (start_len s i j)]; exact Nat.le_refl _
theorem endsB_tx (s : Dig.Txt) (i : Nat) : (endsB s i 18).map tx = Dig.endsOf s i := by
  unfold endsB Dig.endsOf; rw [List.map_map]; rfl
theorem ends_need (s : Dig.Txt) (i : Nat) : need (endsB s i 18) ≤ 140737488355328 :=
  need_all 16 18 (endsB_size s i 18) (by rw [endsB_len]; exact Nat.le_refl _) (by decide)
theorem start_big (s : Dig.Txt) (i k : Nat) : (ofT (Dig.start0 s i k)).size ≤ 140737488355328 := by rw [size_ofT, start_len]; decide
theorem rkey_l0 (a0 : ByteArray) (i : Nat) (hs : a0.size ≤ 10000) (hi : i ≤ 100000) : ∀ (d j : Nat), j + d = 18 →
    PCb.planisphereref02_Key.l0 (d + 1) a0 i (endsB (tx a0) i j) j = some (ofT (Dig.tree (tx a0) 0 i))
  | 0, j, h => by
    have : j = 18 := by omega
    subst this
    rw [PCb.planisphereref02_Key.l0, if_neg (by omega), rList _ (ends_need _ _), Option.bind_some, endsB_tx]; rfl
  | d + 1, j, h => by
    rw [PCb.planisphereref02_Key.l0, if_pos (by omega), startP a0 i j hs hi (by omega), Option.bind_some, show (15 : Int) = ((15 : Nat) : Int) from rfl, rChain _ 15 (start_big _ _ _) (by decide), Option.bind_some,
      if_pos (by rw [endsB_len]; omega), wrap_succ j (by omega), tx_ofT, ← endsB_succ, rkey_l0 a0 i hs hi d (j + 1) (by omega)]
theorem skey_l0 (a0 : ByteArray) (i : Nat) (hs : a0.size ≤ 10000) (hi : i ≤ 100000) : ∀ (d j : Nat), j + d = 18 →
    PCb.seal_key.l0 (d + 1) a0 i (endsB (tx a0) i j) j = some (ofT (Dig.tree (tx a0) 0 i))
  | 0, j, h => by
    have : j = 18 := by omega
    subst this
    rw [PCb.seal_key.l0, if_neg (by omega), sOf _ (ends_need _ _), Option.bind_some, endsB_tx]; rfl
  | d + 1, j, h => by
    rw [PCb.seal_key.l0, if_pos (by omega), startS a0 i j hs hi (by omega), Option.bind_some, show (15 : Int) = ((15 : Nat) : Int) from rfl, sChain _ 15 (start_big _ _ _) (by decide), Option.bind_some,
      if_pos (by rw [endsB_len]; omega), wrap_succ j (by omega), tx_ofT, ← endsB_succ, skey_l0 a0 i hs hi d (j + 1) (by omega)]
def keyIn (a0 : ByteArray) (a1 : Int) : Prop := Small a0.size ∧ Idx a1
instance (a0 : ByteArray) (a1 : Int) : Decidable (keyIn a0 a1) := inferInstanceAs (Decidable (Small a0.size ∧ Idx a1))
def planisphereref02_Key.f (a0 : ByteArray) (a1 : Int) : Option ByteArray := if keyIn a0 a1 then some (ofT (Dig.tree (tx a0) 0 a1.toNat)) else none
theorem planisphereref02_Key.calls (a0 : ByteArray) (a1 : Int) (r : ByteArray) (w : World) (h : planisphereref02_Key.f a0 a1 = some r) :
    Calls Tryd.prog 82 #[.string a0, .int .i64 a1] w fun e w' => e = .returned (.string r) ∧ Below w.heap.size w w' := by
  obtain ⟨⟨hs, hI⟩, rfl⟩ := if_out h
  obtain ⟨i, rfl, hi⟩ := hI.nat
  exact PCb.planisphereref02_Key.calls 19 a0 i _ w (rkey_l0 a0 i hs hi 18 0 rfl)
def seal_key.f (a0 : ByteArray) (a1 : Int) : Option ByteArray := if keyIn a0 a1 then some (ofT (Dig.tree (tx a0) 0 a1.toNat)) else none
theorem seal_key.calls (a0 : ByteArray) (a1 : Int) (r : ByteArray) (w : World) (h : seal_key.f a0 a1 = some r) (hG : Glob w) :
    Calls Tryd.prog 79 #[.string a0, .int .i64 a1] w fun e w' => e = .returned (.string r) ∧ Below w.heap.size w w' := by
  obtain ⟨⟨hs, hI⟩, rfl⟩ := if_out h
  obtain ⟨i, rfl, hi⟩ := hI.nat
  exact PCb.seal_key.calls 19 a0 i _ w (skey_l0 a0 i hs hi 18 0 rfl) hG
def nodeIn (a0 a1 : ByteArray) : Prop := Small a0.size ∧ Small a1.size
instance (a0 a1 : ByteArray) : Decidable (nodeIn a0 a1) := inferInstanceAs (Decidable (Small a0.size ∧ Small a1.size))
theorem node_need (a0 a1 : ByteArray) (h0 : a0.size ≤ 10000) (h1 : a1.size ≤ 10000) : need [(⟨#[110, 111, 100, 101]⟩ : ByteArray), a0, a1] ≤ 140737488355328 :=
  need3 _ _ _ (by decide) h0 h1
def stepB (at_ p : Dig.Txt) (back : Bool) : Dig.Txt := if back then Dig.nodeT p at_ else Dig.nodeT at_ p
def planisphereref02_parent.f (a0 : ByteArray) (a1 : ByteArray) (a2 : Bool) : Option ByteArray := if nodeIn a0 a1 then some (ofT (Dig.sum (stepB (tx a0) (tx a1) a2))) else none
theorem planisphereref02_parent.calls (a0 : ByteArray) (a1 : ByteArray) (a2 : Bool) (r : ByteArray) (w : World) (h : planisphereref02_parent.f a0 a1 a2 = some r) :
    Calls Tryd.prog 65 #[.string a0, .string a1, .bool a2] w fun e w' => e = .returned (.string r) ∧ Below w.heap.size w w' := by
  obtain ⟨⟨h0, h1⟩, rfl⟩ := if_out h
  refine PCb.planisphereref02_parent.calls a0 a1 a2 _ w ?_
  unfold PCb.planisphereref02_parent.f
  cases a2 with
  | true => rw [if_pos rfl, rList _ (node_need a1 a0 h1 h0), Option.bind_some]; rfl
  | false => rw [if_neg Bool.false_ne_true, rList _ (node_need a0 a1 h0 h1), Option.bind_some]; rfl
def seal_node.f (a0 : ByteArray) (a1 : ByteArray) (a2 : Bool) : Option ByteArray := if nodeIn a0 a1 then some (ofT (Dig.sum (stepB (tx a0) (tx a1) a2))) else none
theorem seal_node.calls (a0 : ByteArray) (a1 : ByteArray) (a2 : Bool) (r : ByteArray) (w : World) (h : seal_node.f a0 a1 a2 = some r) (hG : Glob w) :
    Calls Tryd.prog 64 #[.string a0, .string a1, .bool a2] w fun e w' => e = .returned (.string r) ∧ Below w.heap.size w w' := by
  obtain ⟨⟨h0, h1⟩, rfl⟩ := if_out h
  refine PCb.seal_node.calls a0 a1 a2 _ w ?_ hG
  unfold PCb.seal_node.f
  cases a2 with
  | true => rw [if_pos rfl, sOf _ (node_need a1 a0 h1 h0), Option.bind_some]; rfl
  | false => rw [if_neg Bool.false_ne_true, sOf _ (node_need a0 a1 h0 h1), Option.bind_some]; rfl
end Go.Proofs.YteleheamnighkaaDoor
end
section
set_option linter.unusedVariables false
set_option linter.unusedSimpArgs false
namespace Go.Proofs.YteleheamnighkaaDoor
open Go.RowKit Go.DoorKit Go.Proofs.YteleheamnighkaaDoorW.PrintWords
def ints (l : List Nat) : List Int := l.map fun (n : Nat) => (n : Int)
theorem hex_char (c : UInt8) (h : Dig.isHex c = true) : HexC (c.toNat : Int) ∧ hexI (c.toNat : Int) = (Dig.hexv c : Int) ∧ Dig.hexv c ≤ 15 := by
  have : ∀ n : Fin 256, Dig.isHex (UInt8.ofNat n.val) = true → HexC ((UInt8.ofNat n.val).toNat : Int) ∧ hexI ((UInt8.ofNat n.val).toNat : Int) = (Dig.hexv (UInt8.ofNat n.val) : Int) ∧ Dig.hexv (UInt8.ofNat n.val) ≤ 15 := by decide +kernel
  have h2 := this ⟨c.toNat, c.toNat_lt⟩
  rw [show UInt8.ofNat (⟨c.toNat, c.toNat_lt⟩ : Fin 256).val = c from UInt8.ofNat_toNat] at h2
  exact h2 h
theorem bt_ofT (l : List UInt8) (i : Nat) (h : i < l.length) : bt (ofT l) i = ((l[i]).toNat : Int) := by
  unfold bt
  rw [dif_pos (by rw [size_ofT, Int.toNat_natCast]; exact h)]
  rfl
theorem rest_snoc (l : List Nat) (x : Nat) : Dig.restOf (l ++ [x]) = Dig.restOf l + (15 - x) := by simp [Dig.restOf]
theorem rest_le : ∀ l : List Nat, Dig.restOf l ≤ 15 * l.length
  | [] => Nat.le_refl _
  | x :: l => by
    have := rest_le l
    have e : Dig.restOf (x :: l) = (15 - x) + Dig.restOf l := by simp [Dig.restOf]
    rw [e, List.length_cons]; omega
theorem ints_snoc (l : List Nat) (x : Nat) : ints (l ++ [x]) = ints l ++ [(x : Int)] := by simp [ints]
theorem ints_len (l : List Nat) : (ints l).length = l.length := by simp [ints]
theorem wrap_rest (r x : Nat) (hr : r ≤ 4000) (hx : x ≤ 15) : wrap64 ((wrap64 ((r : Int) + 15)) - (x : Int)) = ((r + (15 - x) : Nat) : Int) := by
  have : wrap64 ((r : Int) + 15) = (r : Int) + 15 := by unfold wrap64; omega
  rw [this]; unfold wrap64; omega
theorem tdiv16 (r : Nat) (hr : r ≤ 4000) : wrap64 (Int.tdiv (r : Int) 16) = ((r / 16 : Nat) : Int) := by
  have : Int.tdiv (r : Int) 16 = ((r / 16 : Nat) : Int) := by
    rw [show (16 : Int) = ((16 : Nat) : Int) from rfl]; exact (Int.ofNat_tdiv r 16).symm
  rw [this]; unfold wrap64; omega
theorem tmod16 (r : Nat) : Int.tmod (r : Int) 16 = ((r % 16 : Nat) : Int) := by
  rw [show (16 : Int) = ((16 : Nat) : Int) from rfl, BaseFacts.tmod_nat]
theorem digits_l0 (S : List UInt8) (hS : S.length = 16) (hh : ∀ c ∈ S, Dig.isHex c = true) : ∀ (d i : Nat), i + d = 16 →
    PCb.planisphereref02_Digits.l0 (d + 1) (ofT S) (ints ((S.map Dig.hexv).take i)) (Dig.restOf ((S.map Dig.hexv).take i) : Nat) i
      = some (ints (S.map Dig.hexv ++ [Dig.restOf (S.map Dig.hexv) / 16, Dig.restOf (S.map Dig.hexv) % 16]))
  | 0, i, h => by
    have hi : i = 16 := by omega
    subst hi
    have hl : (S.map Dig.hexv).length = 16 := by rw [List.length_map, hS]
    have ht : (S.map Dig.hexv).take 16 = S.map Dig.hexv := List.take_of_length_le (by omega)
    have hr := rest_le (S.map Dig.hexv)
    rw [ht, PCb.planisphereref02_Digits.l0, if_neg (by rw [size_ofT, hS]; omega), Option.bind_some, tdiv16 _ (by omega), tmod16,
      if_pos (by rw [ints_len, hl]; simp)]
    simp [ints]
  | d + 1, i, h => by
    have hl : (S.map Dig.hexv).length = 16 := by rw [List.length_map, hS]
    have hi : i < S.length := by omega
    obtain ⟨h1, h2, h3⟩ := hex_char S[i] (hh _ (List.getElem_mem hi))
    have hr := rest_le ((S.map Dig.hexv).take i)
    have hlt : ((S.map Dig.hexv).take i).length = i := by rw [List.length_take, hl]; omega
    have e : (S.map Dig.hexv).take (i + 1) = (S.map Dig.hexv).take i ++ [Dig.hexv S[i]] := by
      rw [List.take_add_one, List.getElem?_map, List.getElem?_eq_getElem hi]; rfl
    have ed : planisphereref01_Digit.f (bt (ofT S) (i : Int)) = some (Dig.hexv S[i] : Int) := by
      rw [bt_ofT S i hi]; unfold planisphereref01_Digit.f; rw [if_pos h1, h2]
    rw [PCb.planisphereref02_Digits.l0, if_pos (by rw [size_ofT, hS]; omega), if_pos (by omega), ed, Option.bind_some, if_pos (by rw [ints_len, hlt]; omega),
      wrap_rest _ _ (by rw [hlt] at hr; omega) h3, wrap_succ i (by omega), ← ints_snoc, ← rest_snoc, ← e]
    exact digits_l0 S hS hh d (i + 1) (by omega)
def planisphereref02_Digits.f (a0 : ByteArray) : Option (List Int) := if Big a0.size then some (ints (Dig.digits (tx a0))) else none
theorem planisphereref02_Digits.calls (a0 : ByteArray) (r : List Int) (w : World) (h : planisphereref02_Digits.f a0 = some r) :
    Calls Tryd.prog 56 #[.string a0] w fun e w' => ∃ v0_ : Value, e = .returned (v0_) ∧ Kd.R (Kd.int .i64) 3 w' w.heap.size (fun _ => True) v0_ r ∧ Below w.heap.size w w' := by
  obtain ⟨hb, rfl⟩ := if_out h
  refine PCb.planisphereref02_Digits.calls 17 a0 _ w ?_
  unfold PCb.planisphereref02_Digits.f
  rw [rSum a0 hb, Option.bind_some]
  exact digits_l0 _ (Dig.sum_len _) (Pure.sum_hex _) 16 0 rfl
def upL : List ByteArray → List ByteArray
  | a :: b :: l => ofT (Dig.sum (Dig.nodeT (tx a) (tx b))) :: upL l
  | _ => []
def Level (l : List ByteArray) : Prop := l.length ≤ 1000 ∧ ∀ s ∈ l, s.size ≤ 10000
instance (l : List ByteArray) : Decidable (Level l) := inferInstanceAs (Decidable (l.length ≤ 1000 ∧ ∀ s ∈ l, s.size ≤ 10000))
theorem wrap_two (i : Nat) (h : i ≤ 4000) : wrap64 ((i : Int) + 2) = ((i + 2 : Nat) : Int) := by unfold wrap64; omega
theorem drop_two {l : List ByteArray} {i : Nat} (h : i + 1 < l.length) : l.drop i = l.getD i ByteArray.empty :: l.getD (i + 1) ByteArray.empty :: l.drop (i + 2) := by
  rw [List.drop_eq_getElem_cons (show i < l.length by omega), List.drop_eq_getElem_cons (show i + 1 < l.length by omega)]
  simp only [List.getD_eq_getElem?_getD, List.getElem?_eq_getElem (show i < l.length by omega), List.getElem?_eq_getElem h, Option.getD_some]
theorem upL_short {l : List ByteArray} (h : l.length ≤ 1) : upL l = [] := by
  match l, h with
  | [], _ => rfl
  | [_], _ => rfl
  | _ :: _ :: _, h => simp at h
theorem getD_mem {l : List ByteArray} {i : Nat} (h : i < l.length) : l.getD i ByteArray.empty ∈ l := by
  rw [List.getD_eq_getElem?_getD, List.getElem?_eq_getElem h]; exact List.getElem_mem h
theorem up_l0 (l : List ByteArray) (hl : Level l) : ∀ (d i : Nat) (acc : List ByteArray), l.length - i ≤ d → acc.length ≤ i → i ≤ 2000 →
    PCb.planisphereref02_up.l0 (d + 1) l acc i = some (acc ++ upL (l.drop i)) := by
  intro d
  induction d using Nat.strongRecOn with
  | ind d ih =>
    intro i acc hd ha hi2
    by_cases h : i + 1 < l.length
    · have hb := hl.1
      have hs0 := hl.2 _ (getD_mem (show i < l.length by omega))
      have hs1 := hl.2 _ (getD_mem h)
      obtain ⟨d, rfl⟩ : ∃ n, d = n + 2 := ⟨d - 2, by omega⟩
      rw [PCb.planisphereref02_up.l0, wrap_succ i (by omega), if_pos (by omega), if_pos (by omega), if_pos (by omega), if_pos (by omega)]
      unfold rdOf
      rw [Int.toNat_natCast, Int.toNat_natCast, rList _ (node_need _ _ hs0 hs1), Option.bind_some, if_pos (by omega), wrap_two i (by omega), ih (d + 1) (by omega) (i + 2) _ (by omega) (by simp; omega) (by omega),
        drop_two h, upL, List.append_assoc]
      rfl
    · rw [PCb.planisphereref02_up.l0, if_neg ?_, upL_short (by rw [List.length_drop]; omega), List.append_nil]
      have hb := hl.1
      rw [wrap_succ i (by omega)]; omega
def planisphereref02_up.f (l0 : List ByteArray) : Option (List ByteArray) := if Level l0 then some (upL l0) else none
theorem planisphereref02_up.calls (A0 : Option Addr) (c0 : Nat) (l0 : List ByteArray) (r : List ByteArray) (w : World) (hr0 : Kd.C Kd.string w A0 l0.length l0) (hc0 : l0.length ≤ c0) (h : planisphereref02_up.f l0 = some r) :
    Calls Tryd.prog 81 #[.slice A0 l0.length c0] w fun e w' => ∃ v0_ : Value, e = .returned (v0_) ∧ Kd.R Kd.string 9 w' w.heap.size (fun _ => True) v0_ r ∧ Below w.heap.size w w' := by
  obtain ⟨hb, rfl⟩ := if_out h
  refine PCb.planisphereref02_up.calls (l0.length + 1) A0 c0 l0 _ w hr0 hc0 ?_
  exact up_l0 l0 hb l0.length 0 [] (by omega) (Nat.le_refl _) (by decide)
end Go.Proofs.YteleheamnighkaaDoor
end
section
set_option linter.unusedVariables false
namespace Go.Proofs.YteleheamnighkaaDoor
open Go.RowKit Go.Shelf Go.DoorKit
attribute [local go_sem] Oper.semAt_some
def upto (m k : Nat) : List (Fin m) := (List.finRange m).take k
theorem upto_succ {m k : Nat} (h : k < m) : upto m (k + 1) = upto m k ++ [⟨k, h⟩] := by
  unfold upto
  rw [List.take_add_one, List.getElem?_eq_getElem (by simpa using h)]
  simp
theorem upto_len {m k : Nat} (h : k ≤ m) : (upto m k).length = k := by unfold upto; rw [List.length_take, List.length_finRange]; omega
theorem upto_all (m : Nat) : upto m m = List.finRange m := List.take_of_length_le (by simp)
def Kpt (n₀ Bs Bn : Nat) (W W' : World) : Prop := Below n₀ W W' ∧ W'.cell? ⟨Bs, 0, none⟩ = W.cell? ⟨Bs, 0, none⟩ ∧ W'.cell? ⟨Bn, 0, none⟩ = W.cell? ⟨Bn, 0, none⟩
set_option maxRecDepth 100000 in
set_option maxHeartbeats 2000000 in
theorem chunk1_in (n : Nat) (hn : 1 ≤ n) (l Bs Bn n₀ : Nat) (A : Addr) (m cap : Nat) (hm : m ≤ 500) (hcap : 2 * m ≤ cap) (J Jx : List (Fin m) → World → Prop)
    (hY : ∀ pre x W, J pre W → pre.length < m → YieldAt Fence.wide (n - 1) Tryd.prog l #[.slice (some (A.add (2 * x.val))) 2 2] W fun e W' =>
      (e = .returned (.bool true) ∧ J (pre ++ [x]) W' ∧ Kpt n₀ Bs Bn W W') ∨ (e = .returned (.bool false) ∧ Jx (pre ++ [x]) W'))
    (hJd : ∀ pre W d, J pre W → J pre (W.drewN d))
    (W : World) (hBs : W.cell? ⟨Bs, 0, none⟩ = some (.slice (some A) (2 * m) cap)) (hBn : W.cell? ⟨Bn, 0, none⟩ = some (.int .i64 2)) (h0 : J [] W) :
    CallsIn Fence.wide n Tryd.prog 92 #[.func (.yield l) #[] #[], .pointer (some ⟨Bs, 0, none⟩), .pointer (some ⟨Bn, 0, none⟩)] W fun e W' => (∃ v, e = .returned v) ∧
      ((∃ ys, ys = upto m m ∧ J ys W') ∨ (∃ pre, Jx pre W')) := by
  refine callsIn_of_wp Tryd.func92 rfl trivial ?_ rfl
  simp only [Tryd.ntmps92, List.size_toArray, List.length_cons, List.length_nil, Nat.reduceAdd, Nat.reduceSub, Array.replicate_succ, Array.replicate_zero, List.push_toArray, List.append_toArray, List.nil_append, List.cons_append]
  gi_wp2
  gi_loopw [4] (fun i wr => ∃ k : Nat, k ≤ m ∧ i = .int .i64 ((2 * k : Nat) : Int) ∧ J (upto m k) wr ∧ wr.cell? ⟨Bs, 0, none⟩ = some (.slice (some A) (2 * m) cap) ∧ wr.cell? ⟨Bn, 0, none⟩ = some (.int .i64 2))
    (fun i _ => 2 * m - (intOf i).toNat)
  case atStart => exact ⟨0, Nat.zero_le _, rfl, h0, hBs, hBn⟩
  case round =>
    obtain ⟨k, hk, rfl, hJs, hs, hb⟩ := hrel
    by_cases hlt : k < m
    · gi_wp2
      refine wpIn_wide.2 ?_
      go_quiet (fail)
      rw [show min (2 : Int) ((2 * m - 2 * k : Nat) : Int) = 2 by omega]
      have hs' : (wr.drewN nq).cell? ⟨Bs, 0, none⟩ = some (.slice (some A) (2 * m) cap) := hs
      have hb' : (wr.drewN nq).cell? ⟨Bn, 0, none⟩ = some (.int .i64 2) := hb
      have hJ' := hJd _ _ nq hJs
      generalize wr.drewN nq = wq at *
      obtain ⟨fn, tmps, assign, body, hy, hR⟩ := hY _ ⟨k, hlt⟩ wq hJ' (by rw [upto_len hk]; exact hlt)
      gi_wp2
      refine hR.mono ?_
      rintro e W3 (⟨rfl, hJ3, hk3⟩ | ⟨rfl, hJx3⟩)
      · have hs3 : W3.cell? ⟨Bs, 0, none⟩ = some (.slice (some A) (2 * m) cap) := hk3.2.1.trans hs'
        have hb3 : W3.cell? ⟨Bn, 0, none⟩ = some (.int .i64 2) := hk3.2.2.trans hb'
        gi_wp2
        go_roundw
        case rel => exact ⟨k + 1, by omega, by first | rfl | (congr 1; omega), by rw [upto_succ hlt]; exact hJ3, hs3, hb3⟩
        case measure => simp [intOf]; omega
      · gi_wp2
        refine bodyPost_ret (results_none rfl _ _ _) rfl ?_
        exact ⟨⟨_, rfl⟩, .inr ⟨_, hJx3⟩⟩
    · obtain rfl : k = m := by omega
      gi_wp2
      go_end0
      exact ⟨⟨_, rfl⟩, .inl ⟨_, rfl, hJs⟩⟩
set_option maxRecDepth 100000 in
theorem chunk_in (n : Nat) (A : Option Addr) (len cap : Nat) (w : World) :
    CallsIn Fence.wide n Tryd.prog 80 #[.slice A len cap, .int .i64 2] w fun e w' => e = .returned (.func (.func 92) #[] #[.pointer (some ⟨w.heap.size, 0, none⟩), .pointer (some ⟨w.heap.size + 1, 0, none⟩)]) ∧ w' = (w.alloc (.cells #[.slice A len cap] 22)).alloc (.cells #[.int .i64 2] 3) := by
  refine callsIn_of_wp Tryd.func80 rfl trivial ?_ rfl
  simp only [Tryd.ntmps80, List.size_toArray, List.length_cons, List.length_nil, Nat.reduceAdd, Nat.reduceSub, Array.replicate_succ, Array.replicate_zero, List.push_toArray, List.append_toArray, List.nil_append, List.cons_append]
  gi_wp2
  go_ret
  exact ⟨by simp, rfl⟩
theorem chunk_stops (n : Nat) (hn : 1 ≤ n) (Bs Bn n₀ : Nat) (A : Addr) (m cap : Nat) (hm : m ≤ 500) (hcap : 2 * m ≤ cap) (w : World) (hBs : Bs < w.heap.size) (hBn : Bn < w.heap.size)
    (hs : w.cell? ⟨Bs, 0, none⟩ = some (.slice (some A) (2 * m) cap)) (hb : w.cell? ⟨Bn, 0, none⟩ = some (.int .i64 2)) :
    SeqStopsK Fence.wide n Tryd.prog 92 #[.pointer (some ⟨Bs, 0, none⟩), .pointer (some ⟨Bn, 0, none⟩)] (fun x : Fin m => #[.slice (some (A.add (2 * x.val))) 2 2]) (Kpt n₀ Bs Bn)
      (fun ys => ys = List.finRange m) (fun _ => True) m w := fun l J Jx W hW hJ _ hY h0 => by
  refine (chunk1_in n hn l Bs Bn n₀ A m cap hm hcap J Jx hY (fun pre W d h => hJ pre _ _ none h ?_ (fun _ e => by cases e)) W ((hW.cell (p := ⟨Bs, 0, none⟩) hBs).trans hs) ((hW.cell (p := ⟨Bn, 0, none⟩) hBn).trans hb) h0).mono ?_
  · exact ⟨rfl, rfl, rfl, Nat.le_refl _, fun _ _ _ => rfl⟩
  · rintro e W' ⟨he, ⟨ys, rfl, hj⟩ | ⟨pre, hj⟩⟩
    · exact ⟨he, .inl ⟨_, upto_all m, hj⟩⟩
    · exact ⟨he, .inr ⟨_, trivial, hj⟩⟩
end Go.Proofs.YteleheamnighkaaDoor
end
section
set_option linter.unusedVariables false
set_option linter.unusedSimpArgs false
namespace Go.Proofs.YteleheamnighkaaDoor
open Go.RowKit Go.Shelf Go.DoorKit Go.Proofs.YteleheamnighkaaDoorW.PrintWords
attribute [local go_sem] Oper.semAt_some
theorem hexv_lt (c : UInt8) (h : Dig.isHex c = true) : Lib.indexByte [48, 49, 50, 51, 52, 53, 54, 55, 56, 57, 97, 98, 99, 100, 101, 102] c = (Dig.hexv c : Int) := by
  have : ∀ n : Fin 256, Dig.isHex (UInt8.ofNat n.val) = true → Lib.indexByte [48, 49, 50, 51, 52, 53, 54, 55, 56, 57, 97, 98, 99, 100, 101, 102] (UInt8.ofNat n.val) = (Dig.hexv (UInt8.ofNat n.val) : Int) := by decide +kernel
  have h2 := this ⟨c.toNat, c.toNat_lt⟩
  rw [show UInt8.ofNat (⟨c.toNat, c.toNat_lt⟩ : Fin 256).val = c from UInt8.ofNat_toNat] at h2
  exact h2 h
theorem digits_len (m : Dig.Txt) : (Dig.digits m).length = 18 := by
  unfold Dig.digits; simp [Dig.sum_len]
def dAt (m : Dig.Txt) (j : Nat) : Nat := (Dig.digits m).getD j 0
theorem hexix (S : List UInt8) (hh : ∀ c ∈ S, Dig.isHex c = true) (k : Nat) (hk : k < (ofT S).size) (w : World) :
    Calls Tryd.prog 84 #[.string ⟨#[48, 49, 50, 51, 52, 53, 54, 55, 56, 57, 97, 98, 99, 100, 101, 102]⟩, .int .u8 (((ofT S)[k]).toNat : Int)] w fun e w' => e = .returned (.int .i64 ((Dig.hexv (S.getD k 0) : Nat) : Int)) ∧ w = w' := by
  have hk' : k < S.length := by rw [size_ofT] at hk; exact hk
  have e : S.getD k 0 = S[k] := by rw [List.getD_eq_getElem?_getD, List.getElem?_eq_getElem hk']; rfl
  have e2 : (ofT S)[k] = S[k] := rfl
  refine (Tryd.strings_IndexByte _ _ w).mono ?_
  rintro e w' ⟨rfl, rfl⟩
  refine ⟨?_, rfl⟩
  rw [e]
  congr 3
  rw [Int.toNat_natCast]
  have : (((ofT S)[k]).toNat).toUInt8 = S[k] := UInt8.ofNat_toNat
  exact (congrArg (Lib.indexByte _) this).trans (hexv_lt _ (hh _ (List.getElem_mem hk')))
set_option maxRecDepth 100000 in
set_option maxHeartbeats 2000000 in
theorem digits1_in (n : Nat) (hn : 1 ≤ n) (l Bm : Nat) (msg : ByteArray) (hm : msg.size ≤ 140737488355328) (J Jx : List (Fin 18) → World → Prop)
    (hY : ∀ pre x W, J pre W → pre.length < 18 → YieldAt Fence.wide (n - 1) Tryd.prog l #[.int .i64 ((x.val : Nat) : Int), .int .i64 ((dAt (tx msg) x.val : Nat) : Int)] W fun e W' =>
      (e = .returned (.bool true) ∧ J (pre ++ [x]) W' ∧ True) ∨ (e = .returned (.bool false) ∧ Jx (pre ++ [x]) W'))
    (hJd : ∀ pre W W', J pre W → W.grownBy W' none → J pre W')
    (W : World) (hBm : W.cell? ⟨Bm, 0, none⟩ = some (.string msg)) (h0 : J [] W) :
    CallsIn Fence.wide n Tryd.prog 83 #[.func (.yield l) #[] #[], .pointer (some ⟨Bm, 0, none⟩)] W fun e W' => (∃ v, e = .returned v) ∧
      ((∃ ys, ys = upto 18 18 ∧ J ys W') ∨ (∃ pre, Jx pre W')) := by
  refine callsIn_of_wp Tryd.func83 rfl trivial ?_ rfl
  simp only [Tryd.ntmps83, List.size_toArray, List.length_cons, List.length_nil, Nat.reduceAdd, Nat.reduceSub, Array.replicate_succ, Array.replicate_zero, List.push_toArray, List.append_toArray, List.nil_append, List.cons_append]
  gi_wp2_with (refine ⟨trivial, ?_⟩; gi_at_call 17; refine (callsIn_wide.2 (digest_Sum.calls msg _ W (dSum msg hm))).mono ?_; rintro e W1 ⟨rfl, hb1⟩)
  have hJ1 : J [] W1 := hJd _ _ _ h0 ⟨hb1.os, hb1.tape, hb1.output, hb1.size, fun k hk _ => hb1.block k hk⟩
  obtain ⟨S, hS⟩ : ∃ S, S = Dig.sum (tx msg) := ⟨_, rfl⟩
  have hSl : S.length = 16 := by rw [hS]; exact Dig.sum_len _
  have hSh : ∀ c ∈ S, Dig.isHex c = true := by rw [hS]; exact Pure.sum_hex _
  have hDl : (S.map Dig.hexv).length = 16 := by rw [List.length_map, hSl]
  have hD : Dig.digits (tx msg) = S.map Dig.hexv ++ [Dig.restOf (S.map Dig.hexv) / 16, Dig.restOf (S.map Dig.hexv) % 16] := by rw [hS]; rfl
  have dlow : ∀ (k : Nat) (hk : k < S.length), dAt (tx msg) k = Dig.hexv S[k] := fun k hk => by
    unfold dAt
    rw [hD, List.getD_eq_getElem?_getD, List.getElem?_append_left (by omega), List.getElem?_map, List.getElem?_eq_getElem hk]; rfl
  have d16 : dAt (tx msg) 16 = Dig.restOf (S.map Dig.hexv) / 16 := by
    unfold dAt
    rw [hD, List.getD_eq_getElem?_getD, List.getElem?_append_right (by omega), hDl]; rfl
  have d17 : dAt (tx msg) 17 = Dig.restOf (S.map Dig.hexv) % 16 := by
    unfold dAt
    rw [hD, List.getD_eq_getElem?_getD, List.getElem?_append_right (by omega), hDl]; rfl
  rw [← hS]
  have hsz : (ofT S).size = 16 := by rw [size_ofT, hSl]
  rw [hsz, show ((16 : Nat) : Int) = 16 from rfl]
  clear hD hS
  gi_loopw [3, 11] (fun rv i wr => ∃ k : Nat, k ≤ 16 ∧ rv = .int .i64 ((Dig.restOf ((S.map Dig.hexv).take k) : Nat) : Int) ∧ i = .int .i64 (k : Int) ∧ J (upto 18 k) wr)
    (fun _ i _ => 16 - (intOf i).toNat)
  case atStart => exact ⟨0, Nat.zero_le _, rfl, rfl, hJ1⟩
  case round =>
    obtain ⟨k, hk, rfl, rfl, hJs⟩ := hrel
    by_cases hlt : k < 16
    · have hlS : k < S.length := by omega
      have hxl := (hex_char S[k] (hSh _ (List.getElem_mem hlS))).2.2
      have hrl := rest_le ((S.map Dig.hexv).take k)
      have hrl2 : ((S.map Dig.hexv).take k).length ≤ k := List.length_take_le _ _
      have hsz2 : k < (ofT S).size := by omega
      have HC := Lib.hid (hexix S hSh k hsz2)
      obtain ⟨d, hd⟩ : ∃ d, d = Dig.hexv (S.getD k 0) := ⟨_, rfl⟩
      have eg : S.getD k 0 = S[k] := by rw [List.getD_eq_getElem?_getD, List.getElem?_eq_getElem hlS]; rfl
      have hd2 : dAt (tx msg) k = d := by rw [hd, eg]; exact dlow k hlS
      have hd15 : d ≤ 15 := by rw [hd, eg]; exact hxl
      have hts : (S.map Dig.hexv).take (k + 1) = (S.map Dig.hexv).take k ++ [d] := by
        rw [List.take_add_one, List.getElem?_map, List.getElem?_eq_getElem hlS, hd, eg]; rfl
      have hrn : Dig.restOf ((S.map Dig.hexv).take (k + 1)) = Dig.restOf ((S.map Dig.hexv).take k) + (15 - d) := by rw [hts, rest_snoc]
      have hYk := hY _ ⟨k, by omega⟩ wr hJs (by rw [upto_len (by omega)]; omega)
      simp only at hYk
      rw [hd2] at hYk
      have HY := Lib.hid hYk
      rw [← hd] at HC
      generalize hrest : Dig.restOf ((S.map Dig.hexv).take k) = rk at *
      have hrk : rk ≤ 240 := by omega
      have HR2 := Lib.hid (And.intro hrn (And.intro hd2 (And.intro hSl (And.intro hSh (And.intro hsz (And.intro dlow (And.intro d16 (And.intro d17 (And.intro hDl hrest)))))))))
      clear hrest hSl hSh hsz dlow d16 d17 hDl hY hJd hJ1 hb1 hBm h0 hd eg hd2 hts hrn hYk hxl hrl hrl2
      obtain ⟨fn, tmps, assign, body, hy, hR⟩ := HY.out
      clear HY
      gi_wp2_with (refine ⟨trivial, ?_⟩; gi_at_call 84; refine (callsIn_wide.2 (HC.out _)).mono ?_; rintro e w1 ⟨rfl, rfl⟩)
      refine hR.mono ?_
      clear hR hy
      rintro e W3 (⟨rfl, hJ3, -⟩ | ⟨rfl, hJx3⟩)
      · gi_wp2
        go_roundw
        case rel => exact ⟨k + 1, by omega, by rw [HR2.out.1]; congr 1; omega, by first | rfl | (congr 1; omega), by rw [upto_succ (by omega)]; exact hJ3⟩
        case measure => simp [intOf]; omega
      · gi_wp2
        refine bodyPost_ret (results_none rfl _ _ _) rfl ?_
        exact ⟨⟨_, rfl⟩, .inr ⟨_, hJx3⟩⟩
    · obtain rfl : k = 16 := by omega
      have hrl := rest_le (S.map Dig.hexv)
      have hta : (S.map Dig.hexv).take 16 = S.map Dig.hexv := List.take_of_length_le (by omega)
      rw [hta]
      have hY16 := hY _ (⟨16, by decide⟩ : Fin 18) wr hJs (by rw [upto_len (by omega)]; omega)
      have hY17 := fun (W' : World) (hJ' : J (upto 18 16 ++ [(⟨16, by decide⟩ : Fin 18)]) W') => hY (upto 18 16 ++ [(⟨16, by decide⟩ : Fin 18)]) (⟨17, by decide⟩ : Fin 18) W' hJ' (by rw [List.length_append, upto_len (by omega), List.length_singleton]; omega)
      simp only at hY16 hY17
      rw [d16, show ((16 : Nat) : Int) = 16 from rfl] at hY16
      rw [d17, show ((17 : Nat) : Int) = 17 from rfl] at hY17
      have HY := Lib.hid hY16
      have HZ := Lib.hid hY17
      generalize hrest : Dig.restOf (S.map Dig.hexv) = rk at *
      have hrk : rk ≤ 240 := by omega
      have h1 : ((rk / 16 : Nat) : Int) = (rk : Int) / 16 := by omega
      have h2 : ((rk % 16 : Nat) : Int) = (rk : Int) % 16 := by omega
      rw [h1] at HY
      rw [h2] at HZ
      clear hrest hSl hSh hsz dlow d16 d17 hDl hY hJd hJ1 hb1 hBm h0 hY16 hY17 h1 h2 hta hrl hJs
      obtain ⟨fn, tmps, assign, body, hy, hR⟩ := HY.out
      clear HY
      gi_wp2
      refine hR.mono ?_
      clear hR hy
      rintro e W3 (⟨rfl, hJ3, -⟩ | ⟨rfl, hJx3⟩)
      · obtain ⟨fn, tmps, assign, body, hy, hR⟩ := HZ.out _ hJ3
        clear HZ
        gi_wp2
        refine hR.mono ?_
        clear hR hy
        rintro e W4 (⟨rfl, hJ4, -⟩ | ⟨rfl, hJx4⟩)
        · gi_wp2
          go_end0
          exact ⟨⟨_, rfl⟩, .inl ⟨_, rfl, by rw [upto_succ (show 17 < 18 by omega), upto_succ (show 16 < 18 by omega)]; exact hJ4⟩⟩
        · gi_wp2
          go_end0
          exact ⟨⟨_, rfl⟩, .inr ⟨_, hJx4⟩⟩
      · gi_wp2
        go_end0
        exact ⟨⟨_, rfl⟩, .inr ⟨_, hJx3⟩⟩
set_option maxRecDepth 100000 in
theorem digits_in (n : Nat) (msg : ByteArray) (w : World) :
    CallsIn Fence.wide n Tryd.prog 52 #[.string msg] w fun e w' => e = .returned (.func (.func 83) #[] #[.pointer (some ⟨w.heap.size, 0, none⟩)]) ∧ w' = w.alloc (.cells #[.string msg] 9) := by
  refine callsIn_of_wp Tryd.func52 rfl trivial ?_ rfl
  simp only [Tryd.ntmps52, List.size_toArray, List.length_cons, List.length_nil, Nat.reduceAdd, Nat.reduceSub, Array.replicate_succ, Array.replicate_zero, List.push_toArray, List.append_toArray, List.nil_append, List.cons_append]
  gi_wp2
  go_ret
  exact ⟨rfl, rfl⟩
theorem digits_stops (n : Nat) (hn : 1 ≤ n) (Bm : Nat) (msg : ByteArray) (hm : msg.size ≤ 140737488355328) (w : World) (hBm : Bm < w.heap.size) (hb : w.cell? ⟨Bm, 0, none⟩ = some (.string msg)) :
    SeqStopsK Fence.wide n Tryd.prog 83 #[.pointer (some ⟨Bm, 0, none⟩)] (fun x : Fin 18 => #[.int .i64 ((x.val : Nat) : Int), .int .i64 ((dAt (tx msg) x.val : Nat) : Int)]) (fun _ _ => True)
      (fun ys => ys = List.finRange 18) (fun _ => True) 18 w := fun l J Jx W hW hJ _ hY h0 => by
  refine (digits1_in n hn l Bm msg hm J Jx hY (fun pre W W' h hg => hJ pre _ _ none h hg (fun _ e => by cases e)) W ((hW.cell (p := ⟨Bm, 0, none⟩) hBm).trans hb) h0).mono ?_
  rintro e W' ⟨he, ⟨ys, rfl, hj⟩ | ⟨pre, hj⟩⟩
  · exact ⟨he, .inl ⟨_, upto_all 18, hj⟩⟩
  · exact ⟨he, .inr ⟨_, trivial, hj⟩⟩
end Go.Proofs.YteleheamnighkaaDoor
end
section
set_option linter.unusedVariables false
set_option linter.unusedSimpArgs false
namespace Go.Proofs.YteleheamnighkaaDoor
open Go.RowKit Go.Shelf Go.DoorKit Go.DoorRound Go.Proofs.YteleheamnighkaaDoorW.PrintWords Go.Proofs.YteleheamnighkaaDoorW.PrintLast Go.Proofs.YteleheamnighkaaDoorW.PrintMore
attribute [local go_sem] Oper.semAt_some
theorem kpt_t {n₀ Bs Bn : Nat} {A B C : World} (h : Kpt n₀ Bs Bn A B) (k : Kpt n₀ Bs Bn B C) : Kpt n₀ Bs Bn A C := ⟨h.1.trans k.1, k.2.1.trans h.2.1, k.2.2.trans h.2.2⟩
theorem add_block (A : Addr) (n : Nat) : (A.add n).block = A.block := by unfold Addr.add; split <;> rfl
def pairOf (l : List ByteArray) (j : Nat) : ByteArray := ofT (Dig.sum (Dig.nodeT (tx (l.getD (2 * j) ByteArray.empty)) (tx (l.getD (2 * j + 1) ByteArray.empty))))
set_option maxRecDepth 100000 in
set_option maxHeartbeats 2000000 in
theorem above_in (n : Nat) (hn : 3 ≤ n) (A : Addr) (m cap : Nat) (hm : m ≤ 500) (hcap : 2 * m ≤ cap) (l : List ByteArray) (w : World)
    (hcl : ∀ i, i < 2 * m → w.cell? (A.add i) = some (.string (l.getD i ByteArray.empty))) (hA : A.block < w.heap.size) (hs : ∀ s ∈ l, s.size ≤ 10000) (hl : l.length = 2 * m) (hG : Glob w) :
    CallsIn Fence.wide n Tryd.prog 49 #[.slice (some A) (2 * m) cap] w fun e W' => ∃ v, e = .returned v ∧ W'.ownsRow w.heap.size 9 1 v m ((List.finRange m).map fun j => Value.string (pairOf l j.val)) ∧ Below w.heap.size w W' := by
  have h1 : 1 ≤ n := by omega
  refine callsIn_of_wp_marks Tryd.func49 rfl trivial ?_ rfl
  simp only [Tryd.ntmps49, List.size_toArray, List.length_cons, List.length_nil, Nat.reduceAdd, Nat.reduceSub, Array.replicate_succ, Array.replicate_zero, List.push_toArray, List.append_toArray, List.nil_append, List.cons_append]
  gi_wp2_with (refine ⟨trivial, ?_⟩; gi_at_call 80; refine (chunk_in (n - 1) _ _ _ _).mono ?_; rintro e w' ⟨rfl, rfl⟩)
  have bO := Boxed.new w 22 (.slice none 0 0)
  have bS := Boxed.new (w.alloc (.cells #[.slice none 0 0] 22)) 22 (.slice (some A) (2 * m) cap)
  have bN := Boxed.new ((w.alloc (.cells #[.slice none 0 0] 22)).alloc (.cells #[.slice (some A) (2 * m) cap] 22)) 3 (.int .i64 2)
  simp only [World.size_alloc] at bS bN
  have hB0 : Below w.heap.size w (((w.alloc (.cells #[.slice none 0 0] 22)).alloc (.cells #[.slice (some A) (2 * m) cap] 22)).alloc (.cells #[.int .i64 2] 3)) :=
    (((Below.refl _ w).alloc (Nat.le_refl _) _).alloc (by simp) _).alloc (by simp; omega) _
  obtain ⟨W0, hW0⟩ : ∃ W0, ((w.alloc (.cells #[.slice none 0 0] 22)).alloc (.cells #[.slice (some A) (2 * m) cap] 22)).alloc (.cells #[.int .i64 2] 3) = W0 := ⟨_, rfl⟩
  have hsz : W0.heap.size = w.heap.size + 3 := by rw [← hW0]; simp
  have bO' := (bO.alloc (.cells #[.slice (some A) (2 * m) cap] 22)).alloc (.cells #[.int .i64 2] 3)
  have bS' := bS.alloc (.cells #[.int .i64 2] 3)
  rw [hW0] at bO' bS' bN hB0 ⊢
  clear bO bS
  have hst := chunk_stops (n - 1) (by omega) (w.heap.size + 1) (w.heap.size + 1 + 1) w.heap.size A m cap hm hcap W0 (by omega) (by omega) bS'.cell bN.cell
  have h1o := holdsRow_own (β := List (Fin m)) w.heap.size w.heap.size 22 9 1 (fun pre => pre.length) (fun pre => pre.map fun j => Value.string (pairOf l j.val)) (fun pre v => True)
  have o1 : OwnFrom W0.heap.size (fun (pre : List (Fin m)) W => ∃ v, Boxed W w.heap.size 22 v ∧ W.ownsRow w.heap.size 9 1 v pre.length (pre.map fun j => Value.string (pairOf l j.val)) ∧ True) := fun pre X Y row hs hg hr => h1o pre X Y row hs hg (fun r e => (hr r e).2)
  have o2 : OwnFrom W0.heap.size (fun (pre : List (Fin m)) W => Boxed W (w.heap.size + 1) 22 (.slice (some A) (2 * m) cap)) := Own.from (boxed_own _ _ _) _
  have o3 : OwnFrom W0.heap.size (fun (pre : List (Fin m)) W => Boxed W (w.heap.size + 1 + 1) 3 (.int .i64 2)) := Own.from (boxed_own _ _ _) _
  have o4 : OwnFrom W0.heap.size (fun (pre : List (Fin m)) W => Below w.heap.size w W) := ownFrom_below (Nat.le_refl _) (by omega)
  have hKb : ∀ (W : World) (l : Nat) (o o' : Obj), W0.heap.size ≤ l → W.heap[l]? = some o → o.isCells = false → o.isWalk = false → Kpt w.heap.size (w.heap.size + 1) (w.heap.size + 1 + 1) W (W.putObj l o') := by
    intro W l o o' hl ho hc1 hw1
    refine ⟨belowK_b (w := w) (Nat.le_refl _) W l o o' (by omega) ho hc1 hw1, ?_, ?_⟩
    · exact World.cell?_of_block (World.putObj_heap_other (k := w.heap.size + 1) (by omega))
    · exact World.cell?_of_block (World.putObj_heap_other (k := w.heap.size + 1 + 1) (by omega))
  refine wpIn_rangeFunc_ownG rfl h1 (gf := 92) (lb := #[.pointer (some ⟨w.heap.size + 1, 0, none⟩), .pointer (some ⟨w.heap.size + 1 + 1, 0, none⟩)]) rfl trivial (enters_of Tryd.func92 (by kernel_rfl) rfl)
    hst kpt_t hKb (Below.refl _ _) (fun _ => rfl) _ (fun _ _ _ => False) (OwnFrom.and (OwnFrom.and o1 (OwnFrom.and o2 o3)) o4) (fun _ _ _ _ _ hs _ _ => hs) ⟨⟨⟨_, bO', World.ownsRow_nil _ _ _ _, trivial⟩, bS', bN⟩, hB0⟩
    (fun x => { tmps := #[.slice (some A) (2 * m) cap, undef, .slice none 0 0, .pointer (some ⟨w.heap.size, 0, none⟩), .slice (some (A.add (2 * x.val))) 2 2, .slice (some A) (2 * m) cap, .func (.func 92) #[] #[.pointer (some ⟨w.heap.size + 1, 0, none⟩), .pointer (some ⟨w.heap.size + 1 + 1, 0, none⟩)], .slice (some (A.add (2 * x.val))) 2 2, undef, undef, undef, undef, undef, undef, undef, undef, undef, undef, undef], defers := [] }) ?assign ?body ?done ?stop
  case assign =>
    intro l x W K hK
    gi_wp2
    exact hK
  case body =>
    rintro lr pre x W ⟨⟨⟨v, hv, hrow, -⟩, hbs, hbn⟩, hB⟩ hlt
    have hc := hv.cell
    refine wpIn_block ?_
    refine region_in (noDefer_of (by kernel_rfl)) ?hlo (by kernel_rfl) ?_
    case hlo => rintro ⟨a, w', h⟩; exact h
    have hx1 : 2 * x.val + 1 < 2 * m := by have := x.isLt; omega
    have r0 : W.cell? (A.add (2 * x.val)) = some (.string (l.getD (2 * x.val) ByteArray.empty)) := (hB.cell (p := A.add (2 * x.val)) (by rw [add_block]; exact hA)).trans (hcl _ (by omega))
    have r1 : W.cell? ((A.add (2 * x.val)).add 1) = some (.string (l.getD (2 * x.val + 1) ByteArray.empty)) := by
      rw [Addr.add_add]; exact (hB.cell (p := A.add (2 * x.val + 1)) (by rw [add_block]; exact hA)).trans (hcl _ hx1)
    replace r1 : W.cell? ⟨(A.add (2 * x.val)).block, (A.add (2 * x.val)).off + 1, none⟩ = some (.string (l.getD (2 * x.val + 1) ByteArray.empty)) := r1
    generalize hta : l.getD (2 * x.val) ByteArray.empty = ta at r0
    generalize htb : l.getD (2 * x.val + 1) ByteArray.empty = tb at r1
    refine wpAny_of_last (S := fun w' => w'.cell? ⟨w.heap.size, 0, none⟩ = some v ∧ w'.cell? (A.add (2 * x.val)) = some (.string ta) ∧ w'.cell? ⟨(A.add (2 * x.val)).block, (A.add (2 * x.val)).off + 1, none⟩ = some (.string tb)) (ds := [9, 10]) _ _ _ _ ?_
    show wpAnyLast _ _ _ _ _ _ 11 (#[false, false, false, false, false, false, false, false, false, false, false] : Array Bool) _ W.drew
    have hHeld : W.drew.cell? ⟨w.heap.size, 0, none⟩ = some v ∧ W.drew.cell? (A.add (2 * x.val)) = some (.string ta) ∧ W.drew.cell? ⟨(A.add (2 * x.val)).block, (A.add (2 * x.val)).off + 1, none⟩ = some (.string tb) := ⟨hc, r0, r1⟩
    generalize hWd : W.drew = Wd at hHeld ⊢
    refine take_ (i := 0) (N := some 8) (v := ?_) (a' := ?_) #[true, false, false, false, false, false, false, false, false, false, false] rfl rfl (take_of rfl (by kernel_rfl)) (fun _ _ _ h => h) (Or.inl ⟨by rfl, ?_⟩) hHeld ?_ ?_
    rotate_left
    · rintro w' ⟨s0, s1, s2⟩
      go_simp
      with_reducible rfl
    rotate_left
    · simp only [Act.put, List.setIfInBounds_toArray, List.set_cons_zero, List.set_cons_succ, i64_w, i32_w]
      rfl
    refine pure_ (i := 1) (N := some 9) (v := ?_) (a' := ?_) #[true, true, false, false, false, false, false, false, false, false, false] rfl rfl (any_of rfl (by kernel_rfl)) (fun _ _ _ h => h) (Or.inl ⟨by rfl, ?_⟩) ?_ ?_
    rotate_left
    · intro w'
      go_simp
      with_reducible rfl
    rotate_left
    · simp only [Act.put, List.setIfInBounds_toArray, List.set_cons_zero, List.set_cons_succ, i64_w, i32_w]
      rfl
    refine pure_ (i := 2) (N := some 10) (v := ?_) (a' := ?_) #[true, true, true, false, false, false, false, false, false, false, false] rfl rfl (any_of rfl (by kernel_rfl)) (fun _ _ _ h => h) (Or.inl ⟨by rfl, ?_⟩) ?_ ?_
    rotate_left
    · intro w'
      go_simp
      with_reducible rfl
    rotate_left
    · simp only [Act.put, List.setIfInBounds_toArray, List.set_cons_zero, List.set_cons_succ, i64_w, i32_w]
      rfl
    refine take_ (i := 3) (N := some 11) (v := ?_) (a' := ?_) #[true, true, true, true, false, false, false, false, false, false, false] rfl rfl (take_of rfl (by kernel_rfl)) (fun _ _ _ h => h) (Or.inl ⟨by rfl, ?_⟩) hHeld ?_ ?_
    rotate_left
    · rintro w' ⟨s0, s1, s2⟩
      go_simp
      with_reducible rfl
    rotate_left
    · simp only [Act.put, List.setIfInBounds_toArray, List.set_cons_zero, List.set_cons_succ, i64_w, i32_w]
      rfl
    refine pure_ (i := 4) (N := some 12) (v := ?_) (a' := ?_) #[true, true, true, true, true, false, false, false, false, false, false] rfl rfl (any_of rfl (by kernel_rfl)) (fun _ _ _ h => h) (Or.inl ⟨by rfl, ?_⟩) ?_ ?_
    rotate_left
    · intro w'
      go_simp
      with_reducible rfl
    rotate_left
    · simp only [Act.put, List.setIfInBounds_toArray, List.set_cons_zero, List.set_cons_succ, i64_w, i32_w]
      rfl
    refine pure_ (i := 5) (N := some 13) (v := ?_) (a' := ?_) #[true, true, true, true, true, true, false, false, false, false, false] rfl rfl (any_of rfl (by kernel_rfl)) (fun _ _ _ h => h) (Or.inl ⟨by rfl, ?_⟩) ?_ ?_
    rotate_left
    · intro w'
      go_simp
      with_reducible rfl
    rotate_left
    · simp only [Act.put, List.setIfInBounds_toArray, List.set_cons_zero, List.set_cons_succ, i64_w, i32_w]
      rfl
    refine take_ (i := 6) (N := some 14) (v := ?_) (a' := ?_) #[true, true, true, true, true, true, true, false, false, false, false] rfl rfl (take_of rfl (by kernel_rfl)) (fun _ _ _ h => h) (Or.inl ⟨by rfl, ?_⟩) hHeld ?_ ?_
    rotate_left
    · rintro w' ⟨s0, s1, s2⟩
      go_simp
      with_reducible rfl
    rotate_left
    · simp only [Act.put, List.setIfInBounds_toArray, List.set_cons_zero, List.set_cons_succ, i64_w, i32_w]
      rfl
    have hx1' : 2 * x.val + 1 < l.length := by omega
    obtain ⟨r, hr⟩ : ∃ r, r = pairOf l x.val := ⟨_, rfl⟩
    have hf : seal_node.f ta tb false = some r := by
      unfold seal_node.f
      rw [if_pos ⟨by rw [← hta]; exact hs _ (getD_mem (by omega)), by rw [← htb]; exact hs _ (getD_mem hx1')⟩, hr, ← hta, ← htb]; rfl
    have Hr := Aside0.mk hr
    clear hr
    have hbd : Below w.heap.size w Wd := by rw [← hWd]; exact hB.drew
    refine one_ (i := 7) (N := some 15) #[true, true, true, true, true, true, true, true, false, false, false] rfl rfl (one_of rfl (by kernel_rfl)) (by decide) (fun K hK => ?_)
    refine goes_ Tryd.func64 (by kernel_rfl) rfl #[.string ta, .string tb, .bool false] (by rfl) rfl rfl (by (try simp only [List.map_toArray, List.map_cons, List.map_nil]); first | done | rfl) ?_
    refine (seal_node.calls _ _ false r Wd hf (Glob.below hG hbd)).mono ?_
    rintro e W1 ⟨rfl, hb⟩
    refine ⟨_, rfl, ?_⟩
    have hgd : Wd.grownBy W1 none := ⟨hb.os, hb.tape, hb.output, hb.size, fun k hk _ => hb.block k hk⟩
    have hvd : Boxed Wd w.heap.size 22 v := by rw [← hWd]; exact hv
    have hrd : Wd.ownsRow w.heap.size 9 1 v pre.length (pre.map fun j => Value.string (pairOf l j.val)) := by rw [← hWd]; exact hrow.drew
    have bv : Boxed W1 w.heap.size 22 v := hvd.kept hgd (by simp)
    have brow : W1.ownsRow w.heap.size 9 1 v pre.length (pre.map fun j => Value.string (pairOf l j.val)) := hrd.kept hgd (Classical.em _)
    have hB1 : Below w.heap.size w W1 := hbd.trans (hb.mono hbd.size)
    refine hK.out _ _ ⟨bv.cell, (hb.cell (World.block_lt_of_cell? _ _ hHeld.2.1)).trans hHeld.2.1, (hb.cell (World.block_lt_of_cell? _ _ hHeld.2.2)).trans hHeld.2.2⟩ (fun hHeld1 => ?_)
    clear hK K
    refine norm_ (a' := ?_) ?_ ?_
    rotate_left
    · show Act.put _ (some 15) _ = _
      simp only [Act.put, List.setIfInBounds_toArray, List.set_cons_zero, List.set_cons_succ, i64_w, i32_w]
      rfl
    refine one_ (i := 8) (N := some 16) #[true, true, true, true, true, true, true, true, true, false, false] rfl rfl (one_of rfl (by kernel_rfl)) (by decide) (fun K hK => ?_)
    refine value_ (w1 := ?_) (v := ?_) (by rfl) rfl ?_ ?_
    rotate_left 2
    · go_simp
      constructor
      · rfl
      · rfl
    refine hK.out _ _ ⟨(bv.alloc _).cell, (World.cell?_alloc_lt _ _ _ (World.block_lt_of_cell? _ _ hHeld1.2.1)).trans hHeld1.2.1, (World.cell?_alloc_lt _ _ _ (World.block_lt_of_cell? _ _ hHeld1.2.2)).trans hHeld1.2.2⟩ (fun hHeld2 => ?_)
    clear hK K
    refine norm_ (a' := ?_) ?_ ?_
    rotate_left
    · show Act.put _ (some 16) _ = _
      simp only [Act.put, List.setIfInBounds_toArray, List.set_cons_zero, List.set_cons_succ, i64_w, i32_w]
      rfl
    refine last_ (i := 9) (N := some 17) #[true, true, true, true, true, true, true, true, true, true, false] rfl rfl (one_of rfl (by kernel_rfl)) (by decide) (fun K hK => ?_)
    refine step_append_cells (w0 := w) w.heap.size ?hwant (.tmp 8) (.tmp 16) 22 9 (.string ⟨#[]⟩) 1 16 ?hop Tryd.underlying22 PCb.info9 rfl (by decide) (by omega) v pre.length _ [.string r] ?hsv ?hxv rfl (by simp [Value.oneCell']) brow hB1 hB1.size (by omega) ?_
    (case hop => rfl)
    (case hwant => rfl)
    (case hsv => rfl)
    (case hxv => rfl)
    intro v1 w2 hown2 hb2 hg2 hat2
    obtain ⟨g', cap', rfl⟩ := ownsRow_succ hown2
    refine hK.out _ _ ?_
    clear hK K
    refine norm_ (a' := ?_) ?_ ?_
    rotate_left
    · show Act.put _ (some 17) _ = _
      simp only [Act.put, List.setIfInBounds_toArray, List.set_cons_zero, List.set_cons_succ, i64_w, i32_w]
      rfl
    have bv2 : Boxed w2 w.heap.size 22 v := bv.kept hg2 (bv.not_row (by decide) brow)
    have hc2 := bv2.cell
    have hf2 := bv2.frozen
    refine last_ (i := 10) (N := none) #[true, true, true, true, true, true, true, true, true, true, true] rfl rfl (one_of rfl (by kernel_rfl)) (by decide) (fun K hK => ?_)
    refine skip_ (w1 := ?_) (by rfl) rfl ?_ ?_
    rotate_left
    · go_simp
      rfl
    refine hK.out _ _ ?_
    clear hK K
    refine done_ (done_of rfl (by kernel_rfl)) ?_
    clear hc2 hf2
    have hsW : W.heap.size ≤ W1.heap.size := by have := hb.size; have e : Wd.heap.size = W.heap.size := by rw [← hWd]; rfl
                                                omega
    have bs1 : Boxed W1 (w.heap.size + 1) 22 (.slice (some A) (2 * m) cap) := Boxed.kept (W := Wd) (by rw [← hWd]; exact hbs) hgd (by simp)
    have bn1 : Boxed W1 (w.heap.size + 1 + 1) 3 (.int .i64 2) := Boxed.kept (W := Wd) (by rw [← hWd]; exact hbn) hgd (by simp)
    have bs2 := bs1.kept hg2 (bs1.not_row (by decide) brow)
    have bn2 := bn1.kept hg2 (bn1.not_row (by decide) brow)
    have bs3 := bs2.other (B' := w.heap.size) (by omega) (.slice (some ⟨g', 0, none⟩) (pre.length + 1) cap')
    have bn3 := bn2.other (B' := w.heap.size) (by omega) (.slice (some ⟨g', 0, none⟩) (pre.length + 1) cap')
    have hB3 : Below w.heap.size w (w2.setCell ⟨w.heap.size, 0, none⟩ (.slice (some ⟨g', 0, none⟩) (pre.length + 1) cap')) := hb2.setCell (p := ⟨w.heap.size, 0, none⟩) (Nat.le_refl _) _
    have bv3 := bv2.set (.slice (some ⟨g', 0, none⟩) (pre.length + 1) cap')
    have hown3 := hown2.kept (grownBy_setCell' w2 w.heap.size (.slice (some ⟨g', 0, none⟩) (pre.length + 1) cap')) (.inr (bv2.not_row (by decide) hown2).symm)
    have k1 : KeepsOthers W W1 := KeepsOthers.of_grownBy (row := none) (by rw [← hWd] at hgd; exact ⟨hgd.os, hgd.tape, hgd.output, hgd.size, hgd.block⟩) (fun j o ej _ => by cases ej)
    have k2 : KeepsOthers W1 w2 := KeepsOthers.of_grownBy hg2 fun j o ej hj => by
      rcases brow.2 with ⟨rfl, _⟩ | ⟨g, cap, cur, rfl, _, hgb, _⟩
      · simp [Value.ownBlock] at ej
      · obtain rfl : j = g := by simpa [Value.ownBlock] using ej.symm
        rw [hgb] at hj; cases hj; rfl
    have k3 := (k1.trans k2).trans (KeepsOthers.setCell w2 ⟨w.heap.size, 0, none⟩ (.slice (some ⟨g', 0, none⟩) (pre.length + 1) cap'))
    refine ⟨k3.from _, ⟨⟨hB3.os.trans hB.os.symm, hB3.tape.trans hB.tape.symm, hB3.output.trans hB.output.symm, k3.size, fun k hk => (hB3.block k hk).trans (hB.block k hk).symm⟩, bs3.cell.trans hbs.cell.symm, bn3.cell.trans hbn.cell.symm⟩, ⟨⟨⟨_, bv3, ?_, trivial⟩, bs3, bn3⟩, hB3⟩⟩
    rw [List.length_append, List.map_append, List.map_cons, List.map_nil, ← Hr.out]
    exact hown3
  case done =>
    rintro D ys W hD rfl ⟨⟨⟨v, hv, hrow, -⟩, hbs, hbn⟩, hB⟩ hK
    have hc := hv.cell
    gi_wp2
    refine ⟨by simp, .inl ⟨_, _, rfl, run_takeDeferred hK, ?_⟩⟩
    have hrow' := ownsRow_putObj hrow (.deferred none) hK rfl
    rw [List.length_finRange] at hrow'
    exact ⟨_, results_tmp rfl _ _ _, v, rfl, hrow', hB.trans (belowK_b (w := w) (Nat.le_refl _) W D _ _ (by omega) hK rfl rfl)⟩
  case stop =>
    rintro D c pre W _ _ h _
    exact h.elim
end Go.Proofs.YteleheamnighkaaDoor
end
section
set_option linter.unusedVariables false
namespace Go.Proofs.YteleheamnighkaaDoor
open Go.RowKit Go.DoorKit Go.Proofs.YteleheamnighkaaDoorW.PrintWords
def Pairs (l : List ByteArray) : Prop := Level l ∧ l.length % 2 = 0 ∧ 0 < l.length
instance (l : List ByteArray) : Decidable (Pairs l) := inferInstanceAs (Decidable (Level l ∧ l.length % 2 = 0 ∧ 0 < l.length))
theorem upL_pairs : ∀ (m : Nat) (l : List ByteArray), l.length = 2 * m → (List.finRange m).map (fun j => pairOf l j.val) = upL l
  | 0, [], _ => rfl
  | 0, _ :: _, h => by simp at h
  | m + 1, [], h => by simp at h; 
  | m + 1, [_], h => by simp at h; omega
  | m + 1, a :: b :: l, h => by
    rw [List.finRange_succ, List.map_cons, List.map_map, upL]
    have ih := upL_pairs m l (by simp only [List.length_cons] at h; omega)
    rw [← ih]
    rfl
def seal_above.f (l0 : List ByteArray) : Option (List ByteArray) := if Pairs l0 then some (upL l0) else none
theorem seal_above.calls (A0 : Option Addr) (c0 : Nat) (l0 : List ByteArray) (r : List ByteArray) (w : World) (hr0 : Kd.C Kd.string w A0 l0.length l0) (hc0 : l0.length ≤ c0) (h : seal_above.f l0 = some r) (hG : Glob w) :
    Calls Tryd.prog 49 #[.slice A0 l0.length c0] w fun e w' => ∃ v0_ : Value, e = .returned (v0_) ∧ Kd.R Kd.string 9 w' w.heap.size (fun _ => True) v0_ r ∧ Below w.heap.size w w' := by
  obtain ⟨⟨hl, h2, h0⟩, rfl⟩ := if_out h
  obtain ⟨m, hm⟩ : ∃ m, l0.length = 2 * m := ⟨l0.length / 2, by omega⟩
  have hlen := hl.1
  obtain ⟨A, rfl, hA0⟩ := Kd.at_string hr0 0 (Int.le_refl _) (by omega)
  have hcl : ∀ i, i < 2 * m → w.cell? (A.add i) = some (.string (l0.getD i ByteArray.empty)) := fun i hi => by
    obtain ⟨ad, e, hc⟩ := Kd.at_string hr0 (i : Int) (by omega) (by omega)
    obtain rfl := Option.some.inj e
    exact hc
  have hAb : A.block < w.heap.size := by
    have := World.block_lt_of_cell? w _ hA0
    rwa [add_block] at this
  rw [hm]
  refine (callsIn_wide (n := 3)).1 ((above_in 3 (Nat.le_refl _) A m c0 (by omega) (by omega) l0 w hcl hAb hl.2 hm hG).mono ?_)
  rintro e w' ⟨v, rfl, hown, hb⟩
  refine ⟨v, rfl, Kd.R_of_own ?_ (fun _ _ => trivial), hb⟩
  rw [← upL_pairs m l0 hm]
  have e : encs Value.string ((List.finRange m).map fun j => pairOf l0 j.val) = (List.finRange m).map fun j => Value.string (pairOf l0 j.val) := by unfold encs; rw [List.map_map]; rfl
  rw [e, List.length_map, List.length_finRange]
  exact hown
end Go.Proofs.YteleheamnighkaaDoor
end
section
namespace Go.Proofs.YteleheamnighkaaDoor.PCg
open Go.RowKit Go.Proofs.YteleheamnighkaaDoorW.PrintWords Go.Proofs.YteleheamnighkaaDoorW.PrintLast Go.Proofs.YteleheamnighkaaDoorW.PrintMore
attribute [local go_sem] max2_int min2_int max_two min_two max_three min_three max_four min_four   -- for this text's walks alone
set_option linter.unusedVariables false
set_option linter.unusedSimpArgs false
def errW : Option Int → Value
  | none => .nilIface
  | some c => .iface 0 (.int .i64 c)
theorem errW_none : errW none = .nilIface := rfl
theorem errW_some (c : Int) : errW (some c) = .iface 0 (.int .i64 c) := rfl
theorem info9 : (Tryd.prog.info? 9).map (fun i => (i.zero, i.size, i.bytes)) = some (some (.string ⟨#[]⟩), 1, 16) := by kernel_rfl
end Go.Proofs.YteleheamnighkaaDoor.PCg
end
section
namespace Go.Proofs.YteleheamnighkaaDoor.PCg
open Go.RowKit Go.Proofs.YteleheamnighkaaDoorW.PrintWords Go.Proofs.YteleheamnighkaaDoorW.PrintLast Go.Proofs.YteleheamnighkaaDoorW.PrintMore
attribute [local go_sem] max2_int min2_int max_two min_two max_three min_three max_four min_four   -- for this text's walks alone
set_option linter.unusedVariables false
set_option linter.unusedSimpArgs false
def seal_keys.l0 : Nat → ByteArray → List ByteArray → Int → Int → Option (List ByteArray)
  | 0, _, _, _, _ => none
  | k + 1, x0, x5, x11, x12 => if x12 < x11 then ((seal_key.f x0 x12).bind fun t104 => (if 0 ≤ x12 then (if x12 < (x5.length : Int) then (seal_keys.l0 k x0 (x5.set (x12 : Int).toNat t104) x11 (wrap64 (x12 + 1))) else (none)) else (none))) else (some x5)
def seal_keys.f (k : Nat) (a0 : ByteArray) (a1 : Int) : Option (List ByteArray) := if 0 ≤ a1 then (if 0 ≤ (shl .i64 1 a1) then (if (shl .i64 1 a1 : Int).toNat ≤ 17592186044416 then ((some (List.replicate (shl .i64 1 a1 : Int).toNat (⟨#[]⟩ : ByteArray) : List ByteArray)).bind fun y101 => (seal_keys.l0 k a0 y101 (y101.length : Int) 0)) else (none)) else (none)) else (none)
set_option maxHeartbeats 8000000 in
set_option maxRecDepth 100000 in
theorem seal_keys.calls (k : Nat) (a0 : ByteArray) (a1 : Int) (r : List ByteArray) (w : World) (h : seal_keys.f k a0 a1 = some r) (hG : Glob w) :
    Calls Tryd.prog 48 #[.string a0, .int .i64 a1] w fun e w' => ∃ v0_ : Value, e = .returned (v0_) ∧ Kd.R Kd.string 9 w' w.heap.size (fun _ => True) v0_ r ∧ Below w.heap.size w w' := by
  have HG_ := Aside0.mk hG
  clear hG
  have HB := Aside0.mk (Below.refl w.heap.size w)
  have H : (if 0 ≤ a1 then (if 0 ≤ (shl .i64 1 a1) then (if (shl .i64 1 a1 : Int).toNat ≤ 17592186044416 then ((some (List.replicate (shl .i64 1 a1 : Int).toNat (⟨#[]⟩ : ByteArray) : List ByteArray)).bind fun y101 => (seal_keys.l0 k a0 y101 (y101.length : Int) 0)) else (none)) else (none)) else (none)) = some r := h
  clear h
  by_cases c3 : 0 ≤ a1
  · rw [if_pos c3] at H
    have c3b0 := eq_true c3
    have c3b1 : decide (0 ≤ a1) = true := decide_eq_true c3
    clear c3
    obtain ⟨ji4, hji4⟩ : ∃ j_ : Int, (shl .i64 1 a1) = j_ := ⟨_, rfl⟩
    replace H : (if 0 ≤ (ji4) then (if (ji4 : Int).toNat ≤ 17592186044416 then ((some (List.replicate (ji4 : Int).toNat (⟨#[]⟩ : ByteArray) : List ByteArray)).bind fun y101 => (seal_keys.l0 k a0 y101 (y101.length : Int) 0)) else (none)) else (none)) = some r := by first | (rw [hji4] at H; exact H) | (simp only [hji4] at H ⊢; exact H)
    have hji4_ : (IntKind.i64.wrap (1 * 2 ^ min a1.toNat 64)) = ji4 := hji4
    have hji4z : a1 ≤ 64 → (IntKind.i64.wrap (1 * 2 ^ a1.toNat)) = ji4 := shl_small hji4
    have hji4u : (IntKind.i64.wrap (2 ^ min a1.toNat 64)) = ji4 := by have h_ := hji4_; rw [Int.one_mul] at h_; exact h_
    have hji4v : a1 ≤ 64 → (IntKind.i64.wrap (2 ^ a1.toNat)) = ji4 := fun hle_ => by have h_ := hji4z hle_; rw [Int.one_mul] at h_; exact h_
    have hji4y : (wrap64 (1 * 2 ^ min a1.toNat 64)) = ji4 := (i64_w _).symm.trans hji4_
    have hji4x : a1 ≤ 64 → (wrap64 (1 * 2 ^ a1.toNat)) = ji4 := fun h_ => (i64_w _).symm.trans (hji4z h_)
    by_cases c5 : 0 ≤ (ji4)
    · rw [if_pos c5] at H
      have c5b0 := eq_true c5
      have c5b1 : decide (0 ≤ (ji4)) = true := decide_eq_true c5
      clear c5
      by_cases c6 : (ji4 : Int).toNat ≤ 17592186044416
      · rw [if_pos c6] at H
        have c6b0 := eq_true c6
        have c6b1 : decide ((ji4 : Int).toNat ≤ 17592186044416) = true := decide_eq_true c6
        clear c6
        obtain ⟨y101, hy101⟩ : ∃ y_ : List ByteArray, y_ = (List.replicate (ji4 : Int).toNat (⟨#[]⟩ : ByteArray)) := ⟨_, rfl⟩
        replace H : (seal_keys.l0 k a0 y101 (y101.length : Int) 0) = some r := by first | (rw [hy101]; with_reducible exact H) | (have H2_ := (Option.bind_some _ _).symm.trans H; rw [hy101]; with_reducible exact H2_) | (have H2_ := (Option.bind_some _ _).symm.trans H; with_reducible exact H2_) | with_reducible exact H | (rw [hy101]; exact H) | exact H
        have Ny101 := Aside0.mk hy101
        clear hy101
        have H' := Aside0.mk H
        clear H
        go_enter Tryd.func48, Tryd.ntmps48
        go_wp2_with (first | ((with_reducible refine gate_dst (N := 9) rfl ?_); refine Kd.R_make Kd.string _ 9 rfl (N := 9) rfl 22 _ _ rfl ji4 rfl rfl Tryd.underlying22 (.string ⟨#[]⟩) 16 info9 rfl (by decide) (by omega) (⟨#[]⟩ : ByteArray) (ok := fun _ => True) (okp := fun _ => True) rfl (fun _ hk => hk) trivial (of_decide_eq_true (by first | (with_reducible assumption) | assumption)) (Nat.le_trans (Nat.mul_le_mul_right _ (of_decide_eq_true (by first | (with_reducible assumption) | assumption) : ji4.toNat ≤ 17592186044416)) (by omega)) (Below.refl _ _) (Nat.le_refl _) ?_; intro v102 w7 ho8 hb hg_ hnew_; clear hg_ hnew_; (first | rw [← Ny101.out] at ho8 | (simp only [Int.reduceToNat] at ho8; rw [← Ny101.out] at ho8)); have n0_ := Aside0.mk (Kd.R_lower ho8 (below_size (by repeat (first | (with_reducible first | exact HB.out | apply below_alloc | apply pw_below_drewN | apply below_drew1) | exact HB.out)))); have n1_ := Aside0.mk (below_step (by repeat (first | (with_reducible first | exact HB.out | apply below_alloc | apply pw_below_drewN | apply below_drew1) | exact HB.out)) hb); clear HB; have HO103 := n0_; have HB := n1_; clear n0_ n1_; clear hb ho8; obtain ⟨Ao9, co9, eo9⟩ := Kd.R_slice HO103.out; subst eo9))
        go_loopg [12] k (fun kq v12 w' => ∃ (x5_1 : List ByteArray) (x12_1 : Int), v12 = .int .i64 x12_1 ∧ Aside0 (seal_keys.l0 kq a0 x5_1 (y101.length : Int) x12_1 = some r) ∧ Aside0 (kq ≤ k) ∧ Aside0 (Kd.R Kd.string 9 w' w.heap.size (fun _ => True) (.slice Ao9 y101.length co9) x5_1) ∧ Aside0 (Below w.heap.size w w'))
        case atStart => exact ⟨(y101), (0), (by first | rfl | (simp; done) | (simp [*]; done)), H', ⟨Nat.le_refl _⟩, ⟨by (with_reducible repeat (first | apply Kd.R_alloc | apply Kd.R_drewN | apply Kd.R_drew)); exact HO103.out⟩, ⟨by repeat (first | (with_reducible first | exact HB.out | apply below_alloc | apply pw_below_drewN | apply below_drew1) | exact HB.out)⟩⟩
        case round =>
          clear H'
          try clear p2
          try clear c3
          try clear c3b0
          try clear c3b1
          try clear c4
          try clear c5
          try clear c5b0
          try clear c5b1
          try clear c6
          try clear c6b0
          try clear c6b1
          try clear p6
          obtain ⟨x5_1, x12_1, rfl, HA, HK1, HO_5, HB⟩ := hrel
          have hl5_1 := (Kd.R_reads' HO_5.out).1
          rw [hl5_1] at HO_5
          (try simp only [hl5_1])
          cases gk with
          | zero => exact absurd HA.out (by simp [seal_keys.l0])
          | succ k1 =>
            have H := HA.out
            clear HA
            simp only [seal_keys.l0] at H
            by_cases c10 : x12_1 < (y101.length : Int)
            · rw [if_pos c10] at H
              have c10b0 : decide (x12_1 < (y101.length : Int)) = true := decide_eq_true c10
              have c10x : decide (x12_1 < (x5_1.length : Int)) = true := by rw [← hl5_1]; exact c10b0
              clear c10
              replace H := Option.bind_eq_some_iff.mp H
              obtain ⟨t104, A110, H⟩ := H
              replace H : (if 0 ≤ x12_1 then (if x12_1 < (x5_1.length : Int) then (seal_keys.l0 k1 a0 (x5_1.set (x12_1 : Int).toNat t104) (y101.length : Int) (wrap64 (x12_1 + 1))) else (none)) else (none)) = some r := H
              have A11 := Aside0.mk A110
              clear A110
              by_cases c12 : 0 ≤ x12_1
              · rw [if_pos c12] at H
                have c12b0 : decide (0 ≤ x12_1) = true := decide_eq_true c12
                clear c12
                by_cases c13 : x12_1 < (x5_1.length : Int)
                · rw [if_pos c13] at H
                  have c13b0 : decide (x12_1 < (x5_1.length : Int)) = true := decide_eq_true c13
                  clear c13
                  obtain ⟨y105, hy105⟩ : ∃ y_ : List ByteArray, y_ = (x5_1.set (x12_1 : Int).toNat t104) := ⟨_, rfl⟩
                  replace H : (seal_keys.l0 k1 a0 y105 (y101.length : Int) (wrap64 (x12_1 + 1))) = some r := by first | (rw [hy105]; with_reducible exact H) | (have H2_ := (Option.bind_some _ _).symm.trans H; rw [hy105]; with_reducible exact H2_) | (have H2_ := (Option.bind_some _ _).symm.trans H; with_reducible exact H2_) | with_reducible exact H | (rw [hy105]; exact H) | exact H
                  have Ny105 := Aside0.mk hy105
                  clear hy105
                  have H' := Aside0.mk H
                  clear H
                  go_wp2_with (first | ((with_reducible refine gate_callee (f := 79) rfl ?_); refine goesL_ (some 19) rfl rfl Tryd.func79 (by kernel_rfl) rfl #[.string a0, .int .i64 x12_1] rfl (by (try simp only [List.map_toArray, List.map_cons, List.map_nil]); first | done | rfl | (simp only [List.length_drop, List.length_take]; rfl)) ?_; (with_reducible refine (seal_key.calls a0 x12_1 t104 _ A11.out (hG := ?hGl)).mono ?_); clear A11; (case hGl => exact (Glob.below HG_.out (by repeat (first | (with_reducible first | exact HB.out | apply below_alloc | apply pw_below_drewN | apply below_drew1) | exact HB.out)))); rintro e w15 ⟨rfl, hb⟩; refine ⟨_, rfl, ?_⟩; have n0_ := Aside0.mk (Kd.R_below (by (with_reducible repeat (first | apply Kd.R_alloc | apply Kd.R_drewN | apply Kd.R_drew)); exact HO_5.out) hb); have n1_ := Aside0.mk (below_step (by repeat (first | (with_reducible first | exact HB.out | apply below_alloc | apply pw_below_drewN | apply below_drew1) | exact HB.out)) hb); clear HO_5; clear HB; have HO_5 := n0_; have HB := n1_; clear n0_ n1_; (try clear hb); (try clear hb2); (try clear hk); (try clear hi); have p14 : 0 ≤ (x12_1 : Int) := of_decide_eq_true (by first | (with_reducible assumption) | assumption); have q14 : (x12_1 : Int) < ((x5_1.length : Int) : Int) := of_decide_eq_true (by first | (with_reducible assumption) | assumption); obtain ⟨go14, co14, eo14, gb14, gl14, cl14, HG14⟩ := Kd.R_form HO_5.out (by omega); (first | cases eo14 | (injection eo14 with ea_ en_ ec_; (first | subst ea_ | (injection ea_ with ea_; subst ea_)); subst ec_; clear en_)); have GB14 := Aside0.mk gb14; have GG14 := Aside0.mk HG14; clear gb14 gl14 HG14; obtain ⟨hx14_0, hf14_0⟩ := Kd.R_celln (⟨#[]⟩ : ByteArray) HO_5.out (x12_1 : Int) p14 q14; replace p14 := eq_true p14; replace q14 := eq_true q14; obtain ⟨hy16_, hz16_⟩ := Kd.R_celln (⟨#[]⟩ : ByteArray) HO_5.out (x12_1 : Int) (of_decide_eq_true (by first | (with_reducible assumption) | assumption)) (of_decide_eq_true (by first | (with_reducible assumption) | assumption)); have HP16 := Kd.R_putg HO_5.out (x12_1 : Int) t104) | ((with_reducible refine gate_store (t := 9) (p := 20) rfl ?_); refine store_event (t := 9) (p := 20) (v := ?vo_w17) (w1 := (w15.setCell ⟨go14, (x12_1 : Int).toNat, none⟩ (.string t104))) ?hg ?ho ?hn ?hr ?_; (case ho => rfl); (case hg => rfl); (case hn => rfl); (case hr => first | (go_simp; done) | (go_simp; rfl)); intro w17 hw; have hg : w15.grownBy w17 (some go14) := (by rw [hw]; exact HP16.2); have hp_ : Kd.R Kd.string 9 w17 w.heap.size (fun _ => True) (.slice (some ⟨go14, 0, none⟩) x5_1.length co9) y105 := (by rw [hw, Ny105.out]; exact HP16.1); clear HP16; have n0_ := Aside0.mk (hp_); have n1_ := Aside0.mk ((by rw [hw]; exact below_set (HB.out) GB14.out : Below w.heap.size w w17)); clear HO_5; clear HB; have HO_5 := n0_; have HB := n1_; clear n0_ n1_; clear hg hw hp_))
                  (try simp only [← hl5_1])
                  go_roundg k1
                  case measure => have := HK1.out; omega
                  case rel => exact ⟨(y105), (wrap64 (x12_1 + 1)), (by first | rfl | (simp; done) | (simp [*]; done)), H', ⟨by have := HK1.out; omega⟩, ⟨by (try simp only [hl5_1]); (with_reducible repeat (first | apply Kd.R_alloc | apply Kd.R_drewN | apply Kd.R_drew)); exact HO_5.out⟩, ⟨by repeat (first | (with_reducible first | exact HB.out | apply below_alloc | apply pw_below_drewN | apply below_drew1) | exact HB.out)⟩⟩
                · rw [if_neg c13] at H
                  exact absurd H (by simp)
              · rw [if_neg c12] at H
                exact absurd H (by simp)
            · rw [if_neg c10] at H
              have c10b0 : decide (x12_1 < (y101.length : Int)) = false := decide_eq_false c10
              have c10x : decide (x12_1 < (x5_1.length : Int)) = false := by rw [← hl5_1]; exact c10b0
              clear c10
              obtain rfl := Option.some.inj H
              go_wp2
              go_ret
              exact ⟨_, by first | rfl | (simp [errW_none, errW_some] <;> rfl) | (simp only [← hji4]; first | rfl | (simp [errW_none, errW_some] <;> rfl)) | (simp [*, errW_none, errW_some] <;> rfl), by (with_reducible repeat (first | apply Kd.R_alloc | apply Kd.R_drewN | apply Kd.R_drew)); exact HO_5.out, by repeat (first | (with_reducible first | exact HB.out | apply below_alloc | apply pw_below_drewN | apply below_drew1) | exact HB.out)⟩
      · rw [if_neg c6] at H
        exact absurd H (by simp)
    · rw [if_neg c5] at H
      exact absurd H (by simp)
  · rw [if_neg c3] at H
    exact absurd H (by simp)
mutual
def seal_Public.j0 : Nat → ByteArray → Int → Bool → Option (ByteArray × Int)
  | 0, _, _, _ => none
  | k + 1, x0, x1, x12 => if x12 = true then (some ((⟨#[]⟩ : ByteArray), 1)) else ((seal_keys.f k x0 x1).bind fun t106 => (seal_Public.l0 k t106))
def seal_Public.l0 : Nat → List ByteArray → Option (ByteArray × Int)
  | 0, _ => none
  | k + 1, x6 => if (x6.length : Int) > 1 then ((seal_above.f x6).bind fun t109 => (seal_Public.l0 k t109)) else (if 0 < (x6.length : Int) then (some (rdOf ByteArray.empty x6 0, 0)) else (none))
end
def seal_Public.f (k : Nat) (a0 : ByteArray) (a1 : Int) : Option (ByteArray × Int) := if a1 < 0 then (seal_Public.j0 k a0 a1 true) else (seal_Public.j0 k a0 a1 (decide (a1 > 8)))
set_option maxHeartbeats 8000000 in
set_option maxRecDepth 100000 in
theorem seal_Public.calls (k : Nat) (a0 : ByteArray) (a1 : Int) (r1 : ByteArray) (r2 : Int) (w : World) (h : seal_Public.f k a0 a1 = some (r1, r2)) (hG : Glob w) :
    Calls Tryd.prog 28 #[.string a0, .int .i64 a1] w fun e w' => e = .returned (.tuple #[.string r1, .int .i64 r2]) ∧ Below w.heap.size w w' := by
  have HG_ := Aside0.mk hG
  clear hG
  have HB := Aside0.mk (Below.refl w.heap.size w)
  have H : (if a1 < 0 then (seal_Public.j0 k a0 a1 true) else (seal_Public.j0 k a0 a1 (decide (a1 > 8)))) = some (r1, r2) := h
  clear h
  have HC3 := Aside0.mk H
  clear H
  go_enter Tryd.func28, Tryd.ntmps28
  go_upto_region 1 with (fail)
  go_cut [12] (fun v12 wc => ∃ (kq : Nat) (x12_2 : Bool), v12 = .bool x12_2 ∧ Aside0 (seal_Public.j0 kq a0 a1 x12_2 = some (r1, r2)) ∧ Aside0 (kq ≤ k) ∧ Aside0 (Below w.heap.size w wc))
  case first =>
    have H := HC3.out
    clear HC3
    by_cases c4 : a1 < 0
    · rw [if_pos c4] at H
      have c4b0 : decide (a1 < 0) = true := decide_eq_true c4
      clear c4
      (first | rw [c4b0] | (simp only [i64_w, i32_w]; rw [c4b0]) | skip)
      have H' := Aside0.mk H
      clear H
      go_wp2
      go_meet
      case rel => exact ⟨_, (true), (by first | rfl | (simp; done) | (simp [*]; done)), H', ⟨by first | omega | exact Nat.le_refl _⟩, ⟨by repeat (first | (with_reducible first | exact HB.out | apply below_alloc | apply pw_below_drewN | apply below_drew1) | exact HB.out)⟩⟩
    · rw [if_neg c4] at H
      have c4b0 : decide (a1 < 0) = false := decide_eq_false c4
      clear c4
      (first | rw [c4b0] | (simp only [i64_w, i32_w]; rw [c4b0]) | skip)
      have H' := Aside0.mk H
      clear H
      go_wp2
      go_meet
      case rel => exact ⟨_, (decide (a1 > 8)), (by first | rfl | (simp; done) | (simp [*]; done)), H', ⟨by first | omega | exact Nat.le_refl _⟩, ⟨by repeat (first | (with_reducible first | exact HB.out | apply below_alloc | apply pw_below_drewN | apply below_drew1) | exact HB.out)⟩⟩
  case rest =>
    clear HC3
    try clear c2
    try clear p2
    try clear c4
    try clear c4b0
    obtain ⟨kq, x12_2, rfl, HA, HJ2, HB⟩ := hcut
    cases kq with
    | zero => exact absurd HA.out (by simp [seal_Public.j0])
    | succ kj2 =>
      have H := HA.out
      clear HA
      simp only [seal_Public.j0] at H
      by_cases c5 : x12_2 = true
      · subst c5
        have H1 : (some ((⟨#[]⟩ : ByteArray), 1)) = some (r1, r2) := by rw [if_pos rfl] at H; exact H
        clear H
        have H := H1
        clear H1
        simp only [Option.some.injEq, Prod.mk.injEq] at H
        obtain ⟨rfl, rfl⟩ := H
        go_wp2
        go_ret2
        exact ⟨by first | rfl | (simp [errW_none, errW_some] <;> rfl) | (simp [*, errW_none, errW_some] <;> rfl), by repeat (first | (with_reducible first | exact HB.out | apply below_alloc | apply pw_below_drewN | apply below_drew1) | exact HB.out)⟩
      · replace c5 := Bool.eq_false_iff.mpr c5
        subst c5
        have H1 : ((seal_keys.f kj2 a0 a1).bind fun t106 => (seal_Public.l0 kj2 t106)) = some (r1, r2) := by rw [if_neg (show ¬ (false = true) by decide)] at H; exact H
        clear H
        have H := H1
        clear H1
        replace H := Option.bind_eq_some_iff.mp H
        obtain ⟨t106, A60, H⟩ := H
        replace H : (seal_Public.l0 kj2 t106) = some (r1, r2) := H
        have A6 := Aside0.mk A60
        clear A60
        have H' := Aside0.mk H
        clear H
        go_wp2_with (first | ((with_reducible refine gate_callee (f := 48) rfl ?_); refine goesL_ (some 15) rfl rfl Tryd.func48 (by kernel_rfl) rfl #[.string a0, .int .i64 a1] rfl (by (try simp only [List.map_toArray, List.map_cons, List.map_nil]); first | done | rfl | (simp only [List.length_drop, List.length_take]; rfl)) ?_; (with_reducible refine (seal_keys.calls kj2 a0 a1 t106 _ A6.out (hG := ?hGl)).mono ?_); (case hGl => exact (Glob.below HG_.out (by repeat (first | (with_reducible first | exact HB.out | apply below_alloc | apply pw_below_drewN | apply below_drew1) | exact HB.out)))); rintro e w7 ⟨v107, rfl, ho0, hb⟩; refine ⟨_, rfl, ?_⟩; have n0_ := Aside0.mk (Kd.R_lower ho0 (below_size (by repeat (first | (with_reducible first | exact HB.out | apply below_alloc | apply pw_below_drewN | apply below_drew1) | exact HB.out)))); have n1_ := Aside0.mk (below_step (by repeat (first | (with_reducible first | exact HB.out | apply below_alloc | apply pw_below_drewN | apply below_drew1) | exact HB.out)) hb); clear HB; have HO108 := n0_; have HB := n1_; clear n0_ n1_; (try clear hb); (try clear hb2); (try clear hk); (try clear hi); (try clear ho0)))
        go_loopg [6] kj2 (fun kq v6 w' => ∃ (x6_2 : List ByteArray), Aside0 (seal_Public.l0 kq x6_2 = some (r1, r2)) ∧ Aside0 (kq ≤ kj2) ∧ Aside0 (Kd.R Kd.string 9 w' w.heap.size (fun _ => True) v6 x6_2) ∧ Aside0 (Below w.heap.size w w'))
        case atStart => exact ⟨(t106), H', ⟨Nat.le_refl _⟩, ⟨by (with_reducible repeat (first | apply Kd.R_alloc | apply Kd.R_drewN | apply Kd.R_drew)); exact HO108.out⟩, ⟨by repeat (first | (with_reducible first | exact HB.out | apply below_alloc | apply pw_below_drewN | apply below_drew1) | exact HB.out)⟩⟩
        case round =>
          clear H'
          try clear c2
          try clear p2
          try clear c4
          try clear c4b0
          try clear c5
          try clear p2
          obtain ⟨x6_2, HA, HK2, HO_6, HB⟩ := hrel
          cases gk with
          | zero => exact absurd HA.out (by simp [seal_Public.l0])
          | succ k2 =>
            have H := HA.out
            clear HA
            simp only [seal_Public.l0] at H
            by_cases c8 : (x6_2.length : Int) > 1
            · rw [if_pos c8] at H
              have c8b0 : decide (1 < (x6_2.length : Int)) = true := decide_eq_true c8
              have c8b1 : decide (1 < x6_2.length) = true := decide_eq_true (by omega)
              clear c8
              replace H := Option.bind_eq_some_iff.mp H
              obtain ⟨t109, A90, H⟩ := H
              replace H : (seal_Public.l0 k2 t109) = some (r1, r2) := H
              have A9 := Aside0.mk A90
              clear A90
              have H' := Aside0.mk H
              clear H
              obtain ⟨Ao10, co10, eo10⟩ := Kd.R_slice HO_6.out
              subst eo10
              go_wp2_with (first | ((with_reducible refine gate_callee (f := 49) rfl ?_); refine goesL_ (some 20) rfl rfl Tryd.func49 (by kernel_rfl) rfl #[.slice Ao10 x6_2.length co10] rfl (by (try simp only [List.map_toArray, List.map_cons, List.map_nil]); first | done | rfl | (simp only [List.length_drop, List.length_take]; rfl)) ?_; (with_reducible refine (seal_above.calls _ _ x6_2 t109 _ ?side1 ?side2 A9.out (hG := ?hGl)).mono ?_); clear A9; (case hGl => exact (Glob.below HG_.out (by repeat (first | (with_reducible first | exact HB.out | apply below_alloc | apply pw_below_drewN | apply below_drew1) | exact HB.out)))); (case side1 => repeat (first | exact (Kd.R_reads' HO_6.out).2.2 | (with_reducible refine Kd.C_alloc ?_ _) | (with_reducible refine Kd.C_drewN ?_ _) | (with_reducible refine Kd.C_drew ?_))); (case side2 => exact (Kd.R_reads' HO_6.out).2.1); rintro e w11 ⟨v110, rfl, ho0, hb⟩; refine ⟨_, rfl, ?_⟩; have n0_ := Aside0.mk (Kd.R_elder' (by (with_reducible repeat (first | apply Kd.R_alloc | apply Kd.R_drewN | apply Kd.R_drew)); exact HO_6.out) (Kd.R_base ho0) hb); have n1_ := Aside0.mk (Kd.R_lower (Kd.R_new' ho0 (Kd.R_lt (by (with_reducible repeat (first | apply Kd.R_alloc | apply Kd.R_drewN | apply Kd.R_drew)); exact HO_6.out))) (below_size (by repeat (first | (with_reducible first | exact HB.out | apply below_alloc | apply pw_below_drewN | apply below_drew1) | exact HB.out)))); have n2_ := Aside0.mk (below_step (by repeat (first | (with_reducible first | exact HB.out | apply below_alloc | apply pw_below_drewN | apply below_drew1) | exact HB.out)) hb); clear HO_6; clear HB; have HO_6 := n0_; have HO111 := n1_; have HB := n2_; clear n0_ n1_ n2_; (try clear hb); (try clear hb2); (try clear hk); (try clear hi); (try clear ho0)))
              go_roundg k2
              case measure => have := HJ2.out; have := HK2.out; omega
              case rel => exact ⟨(t109), H', ⟨by have := HJ2.out; have := HK2.out; omega⟩, ⟨by (with_reducible repeat (first | apply Kd.R_alloc | apply Kd.R_drewN | apply Kd.R_drew)); exact Kd.R_mono HO111.out (fun _ hk => trivial)⟩, ⟨by repeat (first | (with_reducible first | exact HB.out | apply below_alloc | apply pw_below_drewN | apply below_drew1) | exact HB.out)⟩⟩
            · rw [if_neg c8] at H
              have c8b0 : decide (1 < (x6_2.length : Int)) = false := decide_eq_false c8
              have c8b1 : decide (1 < x6_2.length) = false := decide_eq_false (by omega)
              clear c8
              by_cases c12 : 0 < (x6_2.length : Int)
              · rw [if_pos c12] at H
                have c12b0 : decide (0 < (x6_2.length : Int)) = true := decide_eq_true c12
                have c12b1 : decide (0 < x6_2.length) = true := decide_eq_true (by omega)
                clear c12
                simp only [Option.some.injEq, Prod.mk.injEq] at H
                obtain ⟨rfl, rfl⟩ := H
                obtain ⟨Ao13, co13, eo13⟩ := Kd.R_slice HO_6.out
                subst eo13
                have p112 : 0 ≤ (0 : Int) := (by omega)
                have q112 : 0 < (x6_2.length : Int) := of_decide_eq_true (by first | (with_reducible assumption) | assumption)
                obtain ⟨ad112, e112, hx112_0⟩ := Kd.at_string (Kd.R_reads' HO_6.out).2.2 0 p112 q112
                cases e112
                have qi112 : (0 < x6_2.length) = True := eq_true (by omega)
                (try rw [show ((0 : Int)).toNat = 0 from rfl] at hx112_0)
                (try rw [Addr.add_zero'] at hx112_0)
                replace p112 := eq_true p112
                replace q112 := eq_true q112
                go_wp2
                go_ret2
                exact ⟨by first | rfl | (simp [errW_none, errW_some] <;> rfl) | (simp [*, errW_none, errW_some] <;> rfl), by repeat (first | (with_reducible first | exact HB.out | apply below_alloc | apply pw_below_drewN | apply below_drew1) | exact HB.out)⟩
              · rw [if_neg c12] at H
                exact absurd H (by simp)
end Go.Proofs.YteleheamnighkaaDoor.PCg
end
section
set_option linter.unusedVariables false
set_option linter.unusedSimpArgs false
namespace Go.Proofs.YteleheamnighkaaDoor
open Go.RowKit Go.DoorKit Go.Proofs.YteleheamnighkaaDoorW.PrintWords Go.Proofs.YteleheamnighkaaDoorW.PrintLast Go.Proofs.YteleheamnighkaaDoorW.PrintMore
def lvl (s : Dig.Txt) (n j : Nat) : List ByteArray := (List.range n).map fun m => ofT (Dig.tree s j m)
theorem lvl_len (s : Dig.Txt) (n j : Nat) : (lvl s n j).length = n := by simp [lvl]
theorem lvl_succ (s : Dig.Txt) (n j : Nat) : lvl s (n + 1) j = lvl s n j ++ [ofT (Dig.tree s j n)] := by unfold lvl; rw [List.range_succ, List.map_append]; rfl
theorem tree_len (s : Dig.Txt) : ∀ j m, (Dig.tree s j m).length = 16
  | 0, _ => Dig.sum_len _
  | _ + 1, _ => Dig.sum_len _
theorem lvl_size (s : Dig.Txt) (n j : Nat) : ∀ x ∈ lvl s n j, x.size = 16 := by
  intro x hx
  simp only [lvl, List.mem_map] at hx
  obtain ⟨m, _, rfl⟩ := hx
  rw [size_ofT, tree_len]
theorem lvl_get (s : Dig.Txt) (n j i : Nat) (h : i < n) : (lvl s n j).getD i ByteArray.empty = ofT (Dig.tree s j i) := by
  rw [List.getD_eq_getElem?_getD, List.getElem?_eq_getElem (by rw [lvl_len]; exact h)]
  simp [lvl]
theorem upL_append : ∀ (l m : List ByteArray), l.length % 2 = 0 → upL (l ++ m) = upL l ++ upL m
  | [], m, _ => rfl
  | [_], m, h => by simp at h
  | a :: b :: l, m, h => by
    rw [List.cons_append, List.cons_append, upL, upL, upL_append l m (by simp only [List.length_cons] at h; omega)]; rfl
theorem upL_lvl (s : Dig.Txt) (j : Nat) : ∀ n, upL (lvl s (2 * n) j) = lvl s n (j + 1)
  | 0 => rfl
  | n + 1 => by
    rw [show 2 * (n + 1) = 2 * n + 1 + 1 by omega, lvl_succ, lvl_succ, List.append_assoc, upL_append _ _ (by rw [lvl_len]; omega), upL_lvl s j n, lvl_succ]
    rfl
theorem set_replicate (l : List ByteArray) (m : Nat) (x : ByteArray) : (l ++ List.replicate (m + 1) (⟨#[]⟩ : ByteArray)).set l.length x = (l ++ [x]) ++ List.replicate m (⟨#[]⟩ : ByteArray) := by
  rw [List.set_append_right _ _ (Nat.le_refl _), Nat.sub_self, List.replicate_succ, List.set_cons_zero, List.append_assoc]; rfl
theorem sKey (a0 : ByteArray) (i : Nat) (h : a0.size ≤ 10000) (hi : i ≤ 100000) : seal_key.f a0 i = some (ofT (Dig.tree (tx a0) 0 i)) := by
  unfold seal_key.f; rw [if_pos ⟨h, ⟨by omega, by omega⟩⟩, Int.toNat_natCast]
theorem keys_l0 (a0 : ByteArray) (hs : a0.size ≤ 10000) (n : Nat) (hn : n ≤ 1000) : ∀ (d i e : Nat), i + d = n →
    PCg.seal_keys.l0 (d + e + 1) a0 (lvl (tx a0) i 0 ++ List.replicate d (⟨#[]⟩ : ByteArray)) n i = some (lvl (tx a0) n 0)
  | 0, i, e, h => by
    obtain rfl : i = n := by omega
    rw [PCg.seal_keys.l0, if_neg (by omega)]; simp
  | d + 1, i, e, h => by
    have hl : ((lvl (tx a0) i 0 ++ List.replicate (d + 1) (⟨#[]⟩ : ByteArray)).length : Int) = (n : Int) := by
      rw [List.length_append, lvl_len, List.length_replicate]; omega
    rw [show d + 1 + e + 1 = (d + e + 1) + 1 by omega, PCg.seal_keys.l0, if_pos (by omega), sKey a0 i hs (by omega), Option.bind_some, if_pos (by omega), if_pos (by omega), wrap_succ i (by omega), Int.toNat_natCast]
    have e1 : (lvl (tx a0) i 0 ++ List.replicate (d + 1) (⟨#[]⟩ : ByteArray)).set i (ofT (Dig.tree (tx a0) 0 i)) = lvl (tx a0) (i + 1) 0 ++ List.replicate d (⟨#[]⟩ : ByteArray) := by
      have := set_replicate (lvl (tx a0) i 0) d (ofT (Dig.tree (tx a0) 0 i))
      rw [lvl_len] at this
      rw [this, lvl_succ]
    rw [e1]
    exact keys_l0 a0 hs n hn d (i + 1) e (by omega)
theorem shl_one (h : Nat) (hh : h ≤ 20) : shl .i64 1 (h : Int) = ((2 ^ h : Nat) : Int) := by
  have hp : 2 ^ h ≤ 2 ^ 20 := Nat.pow_le_pow_right (by decide) hh
  unfold shl
  have e : min (h : Int).toNat IntKind.i64.bits = h := by rw [Int.toNat_natCast]; exact Nat.min_eq_left (Nat.le_trans hh (by decide))
  rw [e, Int.one_mul]
  have e2 : (2 : Int) ^ h = ((2 ^ h : Nat) : Int) := by simp
  rw [e2]
  generalize 2 ^ h = P at *
  exact IntWalk.i64_in _ (by omega)
theorem pow_le {h m : Nat} (hh : h ≤ m) : 2 ^ h ≤ 2 ^ m := Nat.pow_le_pow_right (by decide) hh
theorem keys_f (a0 : ByteArray) (h m : Nat) (hs : a0.size ≤ 10000) (hh : h ≤ 9) : PCg.seal_keys.f (2 ^ h + m + 1) a0 h = some (lvl (tx a0) (2 ^ h) 0) := by
  have hp : 2 ^ h ≤ 512 := pow_le hh
  have e := shl_one h (by omega)
  unfold PCg.seal_keys.f
  generalize 2 ^ h = Q at *
  rw [e, Int.toNat_natCast, if_pos (by omega), if_pos (by omega), if_pos (by omega), Option.bind_some, List.length_replicate]
  exact keys_l0 a0 hs Q (by omega) Q 0 m (by omega)
theorem keys_calls (a0 : ByteArray) (h : Nat) (w : World) (hs : a0.size ≤ 10000) (hh : h ≤ 9) (hG : Glob w) :
    Calls Tryd.prog 48 #[.string a0, .int .i64 h] w fun e w' => ∃ v0_ : Value, e = .returned (v0_) ∧ Kd.R Kd.string 9 w' w.heap.size (fun _ => True) v0_ (lvl (tx a0) (2 ^ h) 0) ∧ Below w.heap.size w w' :=
  PCg.seal_keys.calls _ a0 h _ w (keys_f a0 h 0 hs hh) hG
end Go.Proofs.YteleheamnighkaaDoor
end
section
set_option linter.unusedVariables false
set_option linter.unusedSimpArgs false
namespace Go.Proofs.YteleheamnighkaaDoor
open Go.RowKit Go.Shelf Go.DoorKit Go.DoorRound Go.Proofs.YteleheamnighkaaDoorW.PrintWords Go.Proofs.YteleheamnighkaaDoorW.PrintLast Go.Proofs.YteleheamnighkaaDoorW.PrintMore
attribute [local go_sem] Oper.semAt_some
def sigAt (s : Dig.Txt) (i : Nat) (m : Dig.Txt) (j : Nat) : ByteArray := ofT (Dig.chain (Dig.start0 s i j) (dAt m j))
theorem sib_lt {x n : Nat} (h : x < 2 * n) : Dig.sib x < 2 * n := by unfold Dig.sib; split <;> omega
theorem xor_sib (x : Nat) (h : x < 256) : bits .xor .i64 (x : Int) 1 = ((Dig.sib x : Nat) : Int) := by
  have : ∀ n : Fin 256, bits .xor .i64 (n.val : Int) 1 = ((Dig.sib n.val : Nat) : Int) := by decide +kernel
  exact this ⟨x, h⟩
def pathL (s : Dig.Txt) (i h : Nat) : List ByteArray := (List.range h).map fun j => ofT (Dig.tree s j (Dig.sib (i / 2 ^ j)))
theorem pathL_len (s : Dig.Txt) (i h : Nat) : (pathL s i h).length = h := by simp [pathL]
def sigL (s : Dig.Txt) (i : Nat) (m : Dig.Txt) : List ByteArray := (List.finRange 18).map fun j => sigAt s i m j.val
theorem sigL_len (s : Dig.Txt) (i : Nat) (m : Dig.Txt) : (sigL s i m).length = 18 := by simp [sigL]
def NoPanic (Q : Exit → Act → World → Prop) : Exit → Act → World → Prop
  | .panic _, _, _ => False
  | e, a, w => Q e a w
theorem noPanic_le (Q : Exit → Act → World → Prop) : ∀ e a w, NoPanic Q e a w → Q e a w := fun e a w h => by cases e <;> first | exact h | exact h.elim
def SignsTo (a0 : ByteArray) (hgt idx : Nat) (msg : ByteArray) (w : World) (e : Ending) (w' : World) : Prop :=
  ∃ v1_ v2_ : Value, e = .returned (.tuple #[.agg #[.int .i64 idx, v1_, v2_], .int .i64 0]) ∧ Kd.R Kd.string 9 w' w.heap.size (fun k_ => some k_ ≠ (v2_ : Value).ownBlock) v1_ (sigL (tx a0) idx (tx msg)) ∧
    Kd.R Kd.string 9 w' w.heap.size (fun k_ => some k_ ≠ (v1_ : Value).ownBlock) v2_ (pathL (tx a0) idx hgt) ∧ Below w.heap.size w w'
theorem above_lvl (s : Dig.Txt) (al : Addr) (Ac n m j : Nat) (W : World) {N0 : Nat} {ok : Nat → Prop} (h : Kd.R Kd.string 9 W N0 ok (.slice (some al) n Ac) (lvl s n j)) (hn : n = 2 * m) (h0 : 0 < m) (hm : m ≤ 400) (hG : Glob W) :
    Calls Tryd.prog 49 #[.slice (some al) n Ac] W fun e w' => ∃ v0_ : Value, e = .returned v0_ ∧ Kd.R Kd.string 9 w' W.heap.size (fun _ => True) v0_ (lvl s m (j + 1)) ∧ Below W.heap.size W w' := by
  obtain ⟨_, hc, hC⟩ := Kd.R_reads' h
  have hl := lvl_len s n j
  have := seal_above.calls (some al) Ac (lvl s n j) (lvl s m (j + 1)) W hC (by omega) ?_ hG
  · rw [hl] at this; exact this
  · unfold seal_above.f
    rw [if_pos, hn, upL_lvl]
    refine ⟨⟨by omega, fun x hx => by rw [lvl_size s n j x hx]; decide⟩, by omega, by omega⟩
def SignLoop (a0 : ByteArray) (hgt idx : Nat) (msg : ByteArray) (w : World) (D N0 N1 : Nat) (v l i : Value) (W : World) : Prop :=
  ∃ (j : Nat) (u : Value), j ≤ hgt ∧ i = .int .i64 ((idx / 2 ^ j : Nat) : Int) ∧ Kd.R Kd.string 9 W N0 (fun k => N0 ≤ k ∧ some k ≠ u.ownBlock) l (lvl (tx a0) (2 ^ (hgt - j)) j) ∧
    Kd.R Kd.string 9 W N1 (fun k => N1 ≤ k) u (pathL (tx a0) idx j) ∧ W.heap[w.heap.size + 1 + 1 + 1]? = some (.cells #[.int .i64 idx, v, u] 35 (0, 0)) ∧
    W.heap[w.heap.size + 1 + 1]? = some (.cells #[.int .i64 0, .slice none 0 0, .slice none 0 0] 35 (0, 0)) ∧ W.heap[D]? = some (.deferred (some [])) ∧
    Kd.R Kd.string 9 W N0 (fun k => N0 ≤ k ∧ k < N1) v (sigL (tx a0) idx (tx msg)) ∧ Below w.heap.size w W ∧ N1 ≤ W.heap.size
def lenV : Value → Nat
  | .slice _ n _ => n
  | _ => 0
theorem dAt_le (m : Dig.Txt) (j : Nat) : dAt m j ≤ 15 := by
  have hl : ∀ x ∈ (Dig.sum m).map Dig.hexv, x ≤ 15 := by
    intro x hx
    obtain ⟨c, hc, rfl⟩ := List.mem_map.1 hx
    exact (hex_char c (Pure.sum_hex _ c hc)).2.2
  have hr := rest_le ((Dig.sum m).map Dig.hexv)
  have hlen : ((Dig.sum m).map Dig.hexv).length = 16 := by rw [List.length_map, Dig.sum_len]
  unfold dAt Dig.digits
  generalize (Dig.sum m).map Dig.hexv = L at *
  dsimp only
  generalize Dig.restOf L = R at *
  rw [hlen] at hr
  rw [List.getD_eq_getElem?_getD]
  have hall : ∀ x ∈ L ++ [R / 16, R % 16], x ≤ 15 := by
    intro x hx
    rcases List.mem_append.1 hx with h | h
    · exact hl x h
    · simp only [List.mem_cons, List.not_mem_nil, or_false] at h
      omega
  cases h : (L ++ [R / 16, R % 16])[j]? with
  | none => exact Nat.zero_le _
  | some x => exact hall x (List.mem_of_getElem? h)
theorem grownBy_setCellI (W : World) (b i : Nat) (v : Value) : W.grownBy (W.setCell ⟨b, i, none⟩ v) (some b) :=
  ⟨rfl, rfl, rfl, (KeepsWalks.setCell W _ v).size, fun k _ hk => Below.heap_setCell _ _ _ k (fun e => hk (by rw [e]))⟩
theorem blk_own {β : Type} (B g : Nat) (cs : Array Value) (t : TypeId) : OwnFrom B (fun (_ : β) W => W.heap[g]? = some (.cells cs t (0, 0))) := by
  intro s X Y row hs hg hrow
  exact (grownBy_keeps_cells hg (fun r e => (hrow r e).2) hs rfl).trans hs
theorem row_ne {W : World} {base k : Nat} {e : TypeId} {size n : Nat} {v : Value} {xs : List Value} (h : W.ownsRow base e size v n xs) (hk : k < base) : some k ≠ v.ownBlock := by
  rcases h.2 with ⟨rfl, _⟩ | ⟨g, cap, cur, rfl, hb, _⟩
  · simp [Value.ownBlock]
  · intro e
    obtain rfl : k = g := by simpa [Value.ownBlock] using e
    omega
theorem blkRow_own (g base B : Nat) (a0 msg : ByteArray) (idx : Nat) : OwnFrom B (fun (pre : List (Fin 18)) W => ∃ v, W.heap[g]? = some (.cells #[.int .i64 idx, v, .slice none 0 0] 35 (0, 0)) ∧
    W.ownsRow base 9 1 v pre.length (pre.map fun j => Value.string (sigAt (tx a0) idx (tx msg) j.val))) := by
  rintro s X Y row ⟨v, hv, hr⟩ hg hrow
  refine ⟨v, (grownBy_keeps_cells hg (fun r e => (hrow r e).2) hv rfl).trans hv, hr.kept hg ?_⟩
  rcases hr.2 with ⟨rfl, _⟩ | ⟨g, cap, cur, rfl, _, hgb, _⟩
  · exact .inl rfl
  · refine .inr fun e' => ?_
    obtain ⟨_, o, ho, hc⟩ := hrow g (by simpa [Value.ownBlock] using e'.symm)
    rw [hgb] at ho; cases ho; cases hc
theorem sign_start (a0 msg : ByteArray) (idx nq : Nat) (w W0 : World)
    (h : (((((((((w.alloc (.cells #[.string a0] 9)).alloc (.cells #[.int .i64 idx] 3)).alloc (.cells #[.int .i64 0, .slice none 0 0, .slice none 0 0] 35)).alloc (.cells #[.int .i64 0, .slice none 0 0, .slice none 0 0] 35)).drewN nq).setCell ⟨w.heap.size + 1 + 1 + 1, 0, none⟩ (.int .i64 idx)).setCell ⟨w.heap.size + 1 + 1 + 1, 1, none⟩ (.slice none 0 0)).setCell ⟨w.heap.size + 1 + 1 + 1, 2, none⟩ (.slice none 0 0)).alloc (.cells #[.string msg] 9)) = W0) :
    W0.heap.size = w.heap.size + 5 ∧ Boxed W0 w.heap.size 9 (.string a0) ∧ Boxed W0 (w.heap.size + 1) 3 (.int .i64 idx) ∧ W0.heap[w.heap.size + 1 + 1]? = some (.cells #[.int .i64 0, .slice none 0 0, .slice none 0 0] 35 (0, 0)) ∧
      W0.heap[w.heap.size + 1 + 1 + 1]? = some (.cells #[.int .i64 idx, .slice none 0 0, .slice none 0 0] 35 (0, 0)) ∧ W0.cell? ⟨w.heap.size + 1 + 1 + 1 + 1, 0, none⟩ = some (.string msg) ∧ Below w.heap.size w W0 := by
  have k1 := blk_new w (.cells #[.string a0] 9)
  have b1 := below_alloc (Below.refl w.heap.size w) (.cells #[.string a0] 9)
  generalize hw1 : w.alloc (.cells #[.string a0] 9) = w1 at *
  have s1 : w1.heap.size = w.heap.size + 1 := by rw [← hw1]; simp
  have k2 := blk_new w1 (.cells #[.int .i64 idx] 3)
  have b2 := below_alloc b1 (.cells #[.int .i64 idx] 3)
  replace k1 := blk_alloc k1 (.cells #[.int .i64 idx] 3)
  rw [s1] at k2
  generalize hw2 : w1.alloc (.cells #[.int .i64 idx] 3) = w2 at *
  have s2 : w2.heap.size = w.heap.size + 1 + 1 := by rw [← hw2]; simp [s1]
  have k3 := blk_new w2 (.cells #[.int .i64 0, .slice none 0 0, .slice none 0 0] 35)
  have b3 := below_alloc b2 (.cells #[.int .i64 0, .slice none 0 0, .slice none 0 0] 35)
  replace k1 := blk_alloc k1 (.cells #[.int .i64 0, .slice none 0 0, .slice none 0 0] 35)
  replace k2 := blk_alloc k2 (.cells #[.int .i64 0, .slice none 0 0, .slice none 0 0] 35)
  rw [s2] at k3
  generalize hw3 : w2.alloc (.cells #[.int .i64 0, .slice none 0 0, .slice none 0 0] 35) = w3 at *
  have s3 : w3.heap.size = w.heap.size + 1 + 1 + 1 := by rw [← hw3]; simp [s2]
  have k4 := blk_new w3 (.cells #[.int .i64 0, .slice none 0 0, .slice none 0 0] 35)
  have b4 := below_alloc b3 (.cells #[.int .i64 0, .slice none 0 0, .slice none 0 0] 35)
  replace k1 := blk_alloc k1 (.cells #[.int .i64 0, .slice none 0 0, .slice none 0 0] 35)
  replace k2 := blk_alloc k2 (.cells #[.int .i64 0, .slice none 0 0, .slice none 0 0] 35)
  replace k3 := blk_alloc k3 (.cells #[.int .i64 0, .slice none 0 0, .slice none 0 0] 35)
  rw [s3] at k4
  generalize hw4 : w3.alloc (.cells #[.int .i64 0, .slice none 0 0, .slice none 0 0] 35) = w4 at *
  have s4 : w4.heap.size = w.heap.size + 1 + 1 + 1 + 1 := by rw [← hw4]; simp [s3]
  replace b4 := pw_below_drewN b4 nq
  replace k1 := blk_drewN k1 nq
  replace k2 := blk_drewN k2 nq
  replace k3 := blk_drewN k3 nq
  replace k4 := blk_drewN k4 nq
  have s5 : (w4.drewN nq).heap.size = w.heap.size + 1 + 1 + 1 + 1 := s4
  generalize w4.drewN nq = w5 at *
  obtain ⟨w6, hw6⟩ : ∃ w6, w5.setCell ⟨w.heap.size + 1 + 1 + 1, 0, none⟩ (.int .i64 idx) = w6 := ⟨_, rfl⟩
  have j1 := blk_far k1 (p := ⟨w.heap.size + 1 + 1 + 1, 0, none⟩) (by show w.heap.size ≠ w.heap.size + 1 + 1 + 1; omega) (.int .i64 idx)
  have j2 := blk_far k2 (p := ⟨w.heap.size + 1 + 1 + 1, 0, none⟩) (by show w.heap.size + 1 ≠ w.heap.size + 1 + 1 + 1; omega) (.int .i64 idx)
  have j3 := blk_far k3 (p := ⟨w.heap.size + 1 + 1 + 1, 0, none⟩) (by show w.heap.size + 1 + 1 ≠ w.heap.size + 1 + 1 + 1; omega) (.int .i64 idx)
  have j4 := blk_put (cs' := #[.int .i64 idx, .slice none 0 0, .slice none 0 0]) k4 0 (.int .i64 idx) rfl
  have b5 := b4.setCell (p := ⟨w.heap.size + 1 + 1 + 1, 0, none⟩) (by show w.heap.size ≤ w.heap.size + 1 + 1 + 1; omega) (.int .i64 idx)
  have s6 : (w5.setCell ⟨w.heap.size + 1 + 1 + 1, 0, none⟩ (.int .i64 idx)).heap.size = w.heap.size + 1 + 1 + 1 + 1 := by simp [World.setCell, s5]
  generalize w5.setCell ⟨w.heap.size + 1 + 1 + 1, 0, none⟩ (.int .i64 idx) = w6 at *
  replace j1 := blk_far j1 (p := ⟨w.heap.size + 1 + 1 + 1, 1, none⟩) (by show w.heap.size ≠ w.heap.size + 1 + 1 + 1; omega) (.slice none 0 0)
  replace j2 := blk_far j2 (p := ⟨w.heap.size + 1 + 1 + 1, 1, none⟩) (by show w.heap.size + 1 ≠ w.heap.size + 1 + 1 + 1; omega) (.slice none 0 0)
  replace j3 := blk_far j3 (p := ⟨w.heap.size + 1 + 1 + 1, 1, none⟩) (by show w.heap.size + 1 + 1 ≠ w.heap.size + 1 + 1 + 1; omega) (.slice none 0 0)
  replace j4 := blk_put (cs' := #[.int .i64 idx, .slice none 0 0, .slice none 0 0]) j4 1 (.slice none 0 0) rfl
  replace b5 := b5.setCell (p := ⟨w.heap.size + 1 + 1 + 1, 1, none⟩) (by show w.heap.size ≤ w.heap.size + 1 + 1 + 1; omega) (.slice none 0 0)
  have s7 : (w6.setCell ⟨w.heap.size + 1 + 1 + 1, 1, none⟩ (.slice none 0 0)).heap.size = w.heap.size + 1 + 1 + 1 + 1 := by simp [World.setCell, s6]
  generalize w6.setCell ⟨w.heap.size + 1 + 1 + 1, 1, none⟩ (.slice none 0 0) = w7 at *
  replace j1 := blk_far j1 (p := ⟨w.heap.size + 1 + 1 + 1, 2, none⟩) (by show w.heap.size ≠ w.heap.size + 1 + 1 + 1; omega) (.slice none 0 0)
  replace j2 := blk_far j2 (p := ⟨w.heap.size + 1 + 1 + 1, 2, none⟩) (by show w.heap.size + 1 ≠ w.heap.size + 1 + 1 + 1; omega) (.slice none 0 0)
  replace j3 := blk_far j3 (p := ⟨w.heap.size + 1 + 1 + 1, 2, none⟩) (by show w.heap.size + 1 + 1 ≠ w.heap.size + 1 + 1 + 1; omega) (.slice none 0 0)
  replace j4 := blk_put (cs' := #[.int .i64 idx, .slice none 0 0, .slice none 0 0]) j4 2 (.slice none 0 0) rfl
  replace b5 := b5.setCell (p := ⟨w.heap.size + 1 + 1 + 1, 2, none⟩) (by show w.heap.size ≤ w.heap.size + 1 + 1 + 1; omega) (.slice none 0 0)
  have s8 : (w7.setCell ⟨w.heap.size + 1 + 1 + 1, 2, none⟩ (.slice none 0 0)).heap.size = w.heap.size + 1 + 1 + 1 + 1 := by simp [World.setCell, s7]
  generalize w7.setCell ⟨w.heap.size + 1 + 1 + 1, 2, none⟩ (.slice none 0 0) = w8 at *
  subst h
  have k5 := blk_new w8 (.cells #[.string msg] 9)
  rw [s8] at k5
  exact ⟨by simp [s8], blk_alloc j1 _, blk_alloc j2 _, blk_alloc j3 _, blk_alloc j4 _, (blk_cell k5 0).trans rfl, below_alloc b5 _⟩
theorem sign_end {a0 : ByteArray} {hgt idx : Nat} {msg : ByteArray} {w wr : World} {D N0 N1 gR : Nat} {Au Av : Option Addr} {Acu Acv : Nat} {tm : Array Value} (t9 : tm.getD 9 undef = .int .i64 0) (t8 : tm.getD 8 undef = .pointer (some ⟨gR, 0, none⟩))
    (h0 : w.heap.size ≤ gR) (h1 : gR < N0) (h2 : N0 ≤ N1) (h3 : N0 ≤ D)
    (hU : Kd.R Kd.string 9 wr N1 (fun k => N1 ≤ k) (.slice Au (pathL (tx a0) idx hgt).length Acu) (pathL (tx a0) idx hgt))
    (hV : Kd.R Kd.string 9 wr N0 (fun k => N0 ≤ k ∧ k < N1) (.slice Av (sigL (tx a0) idx (tx msg)).length Acv) (sigL (tx a0) idx (tx msg)))
    (gR0 : wr.heap[gR]? = some (.cells #[.int .i64 0, .slice none 0 0, .slice none 0 0] 35 (0, 0))) (gD : wr.heap[D]? = some (.deferred (some []))) (hB : Below w.heap.size w wr) :
    NoPanic (bodyPostM Fence.wide 5 Tryd.prog Tryd.f30 (SignsTo a0 hgt idx msg w)) .ret { tmps := tm, defers := [{ target := .collected D, args := #[] }] }
      (((wr.setCell ⟨gR, 0, none⟩ (.int .i64 idx)).setCell ⟨gR, 1, none⟩ (.slice Av (sigL (tx a0) idx (tx msg)).length Acv)).setCell ⟨gR, 2, none⟩ (.slice Au (pathL (tx a0) idx hgt).length Acu)) := by
  have u1 := Kd.R_far (Kd.R_far (Kd.R_far hU (p := ⟨gR, 0, none⟩) (fun k hk e => by have e' : k = gR := e; omega) (.int .i64 idx)) (p := ⟨gR, 1, none⟩) (fun k hk e => by have e' : k = gR := e; omega) (.slice Av (sigL (tx a0) idx (tx msg)).length Acv)) (p := ⟨gR, 2, none⟩) (fun k hk e => by have e' : k = gR := e; omega) (.slice Au (pathL (tx a0) idx hgt).length Acu)
  have v1 := Kd.R_far (Kd.R_far (Kd.R_far hV (p := ⟨gR, 0, none⟩) (fun k hk e => by have e' : k = gR := e; have := hk.1; omega) (.int .i64 idx)) (p := ⟨gR, 1, none⟩) (fun k hk e => by have e' : k = gR := e; have := hk.1; omega) (.slice Av (sigL (tx a0) idx (tx msg)).length Acv)) (p := ⟨gR, 2, none⟩) (fun k hk e => by have e' : k = gR := e; have := hk.1; omega) (.slice Au (pathL (tx a0) idx hgt).length Acu)
  have r1 := blk_put (cs' := #[.int .i64 idx, .slice Av (sigL (tx a0) idx (tx msg)).length Acv, .slice Au (pathL (tx a0) idx hgt).length Acu]) (blk_put (cs' := #[.int .i64 idx, .slice Av (sigL (tx a0) idx (tx msg)).length Acv, .slice none 0 0]) (blk_put (cs' := #[.int .i64 idx, .slice none 0 0, .slice none 0 0]) gR0 0 (.int .i64 idx) rfl) 1 (.slice Av (sigL (tx a0) idx (tx msg)).length Acv) rfl) 2 (.slice Au (pathL (tx a0) idx hgt).length Acu) rfl
  have hDg : D ≠ gR := by omega
  have d1 := (Below.heap_setCell ((wr.setCell ⟨gR, 0, none⟩ (.int .i64 idx)).setCell ⟨gR, 1, none⟩ (.slice Av (sigL (tx a0) idx (tx msg)).length Acv)) ⟨gR, 2, none⟩ (.slice Au (pathL (tx a0) idx hgt).length Acu) D hDg).trans
    ((Below.heap_setCell (wr.setCell ⟨gR, 0, none⟩ (.int .i64 idx)) ⟨gR, 1, none⟩ (.slice Av (sigL (tx a0) idx (tx msg)).length Acv) D hDg).trans ((Below.heap_setCell wr ⟨gR, 0, none⟩ (.int .i64 idx) D hDg).trans gD))
  have b1 := ((hB.setCell (p := ⟨gR, 0, none⟩) h0 (.int .i64 idx)).setCell (p := ⟨gR, 1, none⟩) h0 (.slice Av (sigL (tx a0) idx (tx msg)).length Acv)).setCell (p := ⟨gR, 2, none⟩) h0 (.slice Au (pathL (tx a0) idx hgt).length Acu)
  generalize ((wr.setCell ⟨gR, 0, none⟩ (.int .i64 idx)).setCell ⟨gR, 1, none⟩ (.slice Av (sigL (tx a0) idx (tx msg)).length Acv)).setCell ⟨gR, 2, none⟩ (.slice Au (pathL (tx a0) idx hgt).length Acu) = W5 at *
  clear hU hV gR0 gD hB
  have hDl : D < W5.heap.size := blk_lt d1
  have r2 : (W5.putObj D (.deferred none)).heap[gR]? = some (.cells #[.int .i64 idx, .slice Av (sigL (tx a0) idx (tx msg)).length Acv, .slice Au (pathL (tx a0) idx hgt).length Acu] 35 (0, 0)) := (World.putObj_heap_other (fun e => hDg e.symm)).trans r1
  have u2 := Kd.R_step (w1 := W5.putObj D (.deferred none)) (Kd.R_bound u1) (fun k hk _ => World.putObj_heap_other (fun e => by
    obtain ⟨_, _, _, q, _, cs, hc⟩ := hk
    rw [e, d1] at hc; cases hc))
  have v2 := Kd.R_step (w1 := W5.putObj D (.deferred none)) (Kd.R_bound v1) (fun k hk _ => World.putObj_heap_other (fun e => by
    obtain ⟨_, _, _, q, _, cs, hc⟩ := hk
    rw [e, d1] at hc; cases hc))
  have b2 : Below w.heap.size w (W5.putObj D (.deferred none)) := b1.trans (belowK_b (w := w) (Nat.le_refl _) W5 D _ _ (by omega) d1 rfl rfl)
  refine ⟨by simp, .inl ⟨_, _, rfl, run_takeDeferred d1, ?_⟩⟩
  refine ⟨_, results_ct rfl _ _ gR 35 _ (0, 0) _ t8 r2 Tryd.underlying35 rfl (by kernel_rfl), ?_⟩
  refine ⟨_, _, ?_, Kd.R_mono (Kd.R_lower v2 (by omega)) (fun k hk e => ?_), Kd.R_mono (Kd.R_lower u2 (by omega)) (fun k hk e => ?_), b2⟩
  · show Ending.returned _ = Ending.returned _
    rw [t9]
  · have := Kd.R_base u2 k e.symm; have := hk.1.2; omega
  · have h5 := (v2.1 k e.symm).1.2; have h6 := hk.1; omega
set_option maxRecDepth 100000 in
set_option maxHeartbeats 4000000 in
theorem sign_in (a0 : ByteArray) (hgt idx : Nat) (msg : ByteArray) (w : World) (hs : a0.size ≤ 10000) (hm : msg.size ≤ 140737488355328) (hh : hgt ≤ 8) (hi : idx < 2 ^ hgt) (hG : Glob w) :
    CallsIn Fence.wide 5 Tryd.prog 30 #[.string a0, .int .i64 hgt, .int .i64 idx, .string msg] w fun e w' => SignsTo a0 hgt idx msg w e w' := by
  have hpow : (2 : Int) ^ hgt = ((2 ^ hgt : Nat) : Int) := by simp
  have hp2 : 2 ^ hgt ≤ 256 := by have := Nat.pow_le_pow_right (show 0 < 2 by decide) hh; simpa using this
  generalize hP : 2 ^ hgt = Pw at *
  refine callsIn_of_wp_marks Tryd.func30 rfl trivial ?_ rfl
  simp only [Tryd.ntmps30, List.size_toArray, List.length_cons, List.length_nil, Nat.reduceAdd, Nat.reduceSub, Array.replicate_succ, Array.replicate_zero, List.push_toArray, List.append_toArray, List.nil_append, List.cons_append]
  refine wpIn_wide.2 ?_
  go_wp2
  have d1 : decide ((hgt : Int) < 0) = false := decide_eq_false (by omega)
  have d2 : decide ((8 : Int) < (hgt : Int)) = false := decide_eq_false (by omega)
  have d3 : decide ((idx : Int) < 0) = false := decide_eq_false (by omega)
  have d4 : decide ((Pw : Int) ≤ (idx : Int)) = false := decide_eq_false (by omega)
  have d5 : IntKind.i64.wrap (Pw : Int) = (Pw : Int) := IntWalk.i64_in _ (by omega)
  go_quiet (fail)
  clear d1 d2 d3 d4 d5
  go_wp2_with (go_at_call 52; refine (callsIn_wide.1 (digits_in 5 msg _)).mono ?_; rintro e w1 ⟨rfl, rfl⟩)
  obtain ⟨W0, hW0⟩ : ∃ W0, (((((((((w.alloc (.cells #[.string a0] 9)).alloc (.cells #[.int .i64 idx] 3)).alloc (.cells #[.int .i64 0, .slice none 0 0, .slice none 0 0] 35)).alloc (.cells #[.int .i64 0, .slice none 0 0, .slice none 0 0] 35)).drewN nq).setCell ⟨w.heap.size + 1 + 1 + 1, 0, none⟩ (.int .i64 idx)).setCell ⟨w.heap.size + 1 + 1 + 1, 1, none⟩ (.slice none 0 0)).setCell ⟨w.heap.size + 1 + 1 + 1, 2, none⟩ (.slice none 0 0)).alloc (.cells #[.string msg] 9)) = W0 := ⟨_, rfl⟩
  obtain ⟨hsz, bS, bI, bR, bO, bM, hB0⟩ := sign_start a0 msg idx nq w W0 hW0
  rw [hW0]
  clear hW0
  have hst := digits_stops 4 (by decide) (w.heap.size + 1 + 1 + 1 + 1) msg hm W0 (by omega) bM
  have o1 := blkRow_own (w.heap.size + 1 + 1 + 1) W0.heap.size W0.heap.size a0 msg idx
  have o2 : OwnFrom W0.heap.size (fun (pre : List (Fin 18)) W => Boxed W w.heap.size 9 (.string a0)) := Own.from (boxed_own _ _ _) _
  have o3 : OwnFrom W0.heap.size (fun (pre : List (Fin 18)) W => Boxed W (w.heap.size + 1) 3 (.int .i64 idx)) := Own.from (boxed_own _ _ _) _
  have o4 : OwnFrom W0.heap.size (fun (pre : List (Fin 18)) W => W.heap[w.heap.size + 1 + 1]? = some (.cells #[.int .i64 0, .slice none 0 0, .slice none 0 0] 35 (0, 0))) := blk_own _ _ _ _
  have o5 : OwnFrom W0.heap.size (fun (pre : List (Fin 18)) W => Below w.heap.size w W) := ownFrom_below (Nat.le_refl _) (by omega)
  have o6 : OwnFrom W0.heap.size (fun (pre : List (Fin 18)) W => W0.heap.size ≤ W.heap.size) := fun _ X Y row h hg _ => Nat.le_trans h hg.size
  refine (wpIn_wide (n := 5)).1 ?_
  refine wpIn_rangeFunc_ownG rfl (by decide) (gf := 83) (lb := #[.pointer (some ⟨w.heap.size + 1 + 1 + 1 + 1, 0, none⟩)]) rfl trivial (enters_of Tryd.func83 (by kernel_rfl) rfl)
    hst (fun _ _ => trivial) (fun _ _ _ _ _ _ _ _ => trivial) (Below.refl _ _) (fun _ => rfl) _ (fun _ _ _ => False) (OwnFrom.and (OwnFrom.and o1 (OwnFrom.and o2 o3)) (OwnFrom.and o4 (OwnFrom.and o5 o6))) (fun _ _ _ _ _ hs _ _ => hs) ⟨⟨⟨_, bO, World.ownsRow_nil _ _ _ _⟩, bS, bI⟩, bR, hB0, Nat.le_refl _⟩
    (fun x => { tmps := #[.string a0, .int .i64 hgt, .int .i64 idx, .string msg, .pointer (some ⟨w.heap.size, 0, none⟩), undef, .pointer (some ⟨w.heap.size + 1, 0, none⟩), undef, .pointer (some ⟨w.heap.size + 1 + 1, 0, none⟩), .int .i64 0, .pointer (some ⟨w.heap.size + 1 + 1 + 1, 0, none⟩), .int .i64 ((x.val : Nat) : Int), .int .i64 ((dAt (tx msg) x.val : Nat) : Int), undef, undef, .int .i64 hgt, .bool false, .bool false, .int .i64 hgt, .bool false, .bool false, .bool false, .int .i64 idx, .bool false, .bool false, .bool false, .int .i64 idx, .int .i64 hgt, .int .i64 Pw, .bool false, .bool false, undef, .int .i64 idx, .agg #[.int .i64 idx, .slice none 0 0, .slice none 0 0], .string msg, .func (.func 83) #[] #[.pointer (some ⟨w.heap.size + 1 + 1 + 1 + 1, 0, none⟩)], .int .i64 ((x.val : Nat) : Int), .int .i64 ((dAt (tx msg) x.val : Nat) : Int), undef, undef, undef, undef, undef, undef, undef, undef, undef, undef, undef, undef, undef, undef, undef, undef, undef, undef, undef, undef, undef, undef, undef, undef, undef, undef, undef, undef, undef, undef, undef, undef, undef], defers := [] }) ?assign ?body ?done ?stop
  case assign =>
    intro l x W K hK
    gi_wp2
    exact hK
  case stop =>
    rintro D c pre W _ _ h _
    exact h.elim
  case body =>
    rintro lr pre x W ⟨⟨⟨v, hv, hrow⟩, hbs, hbi⟩, hbr, hB, hN⟩ hlt
    have hc := hv
    dsimp only
    refine wpIn_block ?_
    refine region_in (noDefer_of (by kernel_rfl)) ?hlo (by kernel_rfl) ?_
    case hlo => rintro ⟨a, w', h⟩; exact h
    have r0 : W.cell? ⟨w.heap.size + 1 + 1 + 1, 1, none⟩ = some v := (blk_cell hv 1).trans rfl
    refine wpAny_of_last (S := fun w' => w'.cell? ⟨w.heap.size + 1 + 1 + 1, 1, none⟩ = some v ∧ w'.cell? ⟨w.heap.size, 0, none⟩ = some (.string a0) ∧ w'.cell? ⟨w.heap.size + 1, 0, none⟩ = some (.int .i64 idx)) (ds := [9, 11]) _ _ _ _ ?_
    show wpAnyLast _ _ _ _ _ _ 12 (#[false, false, false, false, false, false, false, false, false, false, false, false] : Array Bool) _ W.drew
    have hHeld : W.drew.cell? ⟨w.heap.size + 1 + 1 + 1, 1, none⟩ = some v ∧ W.drew.cell? ⟨w.heap.size, 0, none⟩ = some (.string a0) ∧ W.drew.cell? ⟨w.heap.size + 1, 0, none⟩ = some (.int .i64 idx) := ⟨r0, hbs.cell, hbi.cell⟩
    generalize hWd : W.drew = Wd at hHeld ⊢
    refine pure_ (i := 0) (N := some 38) (v := ?_) (a' := ?_) #[true, false, false, false, false, false, false, false, false, false, false, false] rfl rfl (any_of rfl (by kernel_rfl)) (fun _ _ _ h => h) (Or.inl ⟨by rfl, ?_⟩) ?_ ?_
    rotate_left
    · intro w'
      go_simp
      with_reducible rfl
    rotate_left
    · simp only [Act.put, List.setIfInBounds_toArray, List.set_cons_zero, List.set_cons_succ, i64_w, i32_w]
      rfl
    refine take_ (i := 1) (N := some 39) (v := ?_) (a' := ?_) #[true, true, false, false, false, false, false, false, false, false, false, false] rfl rfl (take_of rfl (by kernel_rfl)) (fun _ _ _ h => h) (Or.inl ⟨by rfl, ?_⟩) hHeld ?_ ?_
    rotate_left
    · rintro w' ⟨s0, s1, s2⟩
      go_simp
      with_reducible rfl
    rotate_left
    · simp only [Act.put, List.setIfInBounds_toArray, List.set_cons_zero, List.set_cons_succ, i64_w, i32_w]
      rfl
    refine take_ (i := 2) (N := some 40) (v := ?_) (a' := ?_) #[true, true, true, false, false, false, false, false, false, false, false, false] rfl rfl (take_of rfl (by kernel_rfl)) (fun _ _ _ h => h) (Or.inl ⟨by rfl, ?_⟩) hHeld ?_ ?_
    rotate_left
    · rintro w' ⟨s0, s1, s2⟩
      go_simp
      with_reducible rfl
    rotate_left
    · simp only [Act.put, List.setIfInBounds_toArray, List.set_cons_zero, List.set_cons_succ, i64_w, i32_w]
      rfl
    refine take_ (i := 3) (N := some 41) (v := ?_) (a' := ?_) #[true, true, true, true, false, false, false, false, false, false, false, false] rfl rfl (take_of rfl (by kernel_rfl)) (fun _ _ _ h => h) (Or.inl ⟨by rfl, ?_⟩) hHeld ?_ ?_
    rotate_left
    · rintro w' ⟨s0, s1, s2⟩
      go_simp
      with_reducible rfl
    rotate_left
    · simp only [Act.put, List.setIfInBounds_toArray, List.set_cons_zero, List.set_cons_succ, i64_w, i32_w]
      rfl
    refine pure_ (i := 4) (N := some 42) (v := ?_) (a' := ?_) #[true, true, true, true, true, false, false, false, false, false, false, false] rfl rfl (any_of rfl (by kernel_rfl)) (fun _ _ _ h => h) (Or.inl ⟨by rfl, ?_⟩) ?_ ?_
    rotate_left
    · intro w'
      go_simp
      with_reducible rfl
    rotate_left
    · simp only [Act.put, List.setIfInBounds_toArray, List.set_cons_zero, List.set_cons_succ, i64_w, i32_w]
      rfl
    refine pure_ (i := 6) (N := some 44) (v := ?_) (a' := ?_) #[true, true, true, true, true, false, true, false, false, false, false, false] rfl rfl (any_of rfl (by kernel_rfl)) (fun _ _ _ h => h) (Or.inl ⟨by rfl, ?_⟩) ?_ ?_
    rotate_left
    · intro w'
      go_simp
      with_reducible rfl
    rotate_left
    · simp only [Act.put, List.setIfInBounds_toArray, List.set_cons_zero, List.set_cons_succ, i64_w, i32_w]
      rfl
    obtain ⟨t43, h43⟩ : ∃ r, r = ofT (Dig.start0 (tx a0) idx x.val) := ⟨_, rfl⟩
    obtain ⟨t45, h45⟩ : ∃ r, r = sigAt (tx a0) idx (tx msg) x.val := ⟨_, rfl⟩
    have hf1 : seal_start.f a0 idx x.val = some t43 := by
      have := x.isLt
      unfold seal_start.f
      rw [if_pos ⟨hs, ⟨by omega, by omega⟩, ⟨by omega, by omega⟩⟩, h43]; rfl
    have hf2 : seal_chain.f t43 (dAt (tx msg) x.val) = some t45 := by
      rw [h43, h45, sChain _ _ (start_big _ _ _) (Nat.le_trans (dAt_le _ _) (by decide))]; rfl
    have Hr := Aside0.mk h45
    have F1 := Aside0.mk hf1
    have F2 := Aside0.mk hf2
    clear hf1 hf2 h43 h45
    have hbd : Below w.heap.size w Wd := by rw [← hWd]; exact hB.drew
    refine one_ (i := 5) (N := some 43) #[true, true, true, true, true, true, true, false, false, false, false, false] rfl rfl (one_of rfl (by kernel_rfl)) (by decide) (fun K hK => ?_)
    refine goes_ Tryd.func54 (by kernel_rfl) rfl #[.string a0, .int .i64 idx, .int .i64 x.val] (by rfl) rfl rfl (by (try simp only [List.map_toArray, List.map_cons, List.map_nil]); first | done | rfl) ?_
    refine (seal_start.calls _ _ _ t43 Wd F1.out (Glob.below hG hbd)).mono ?_
    rintro e W1 ⟨rfl, hb⟩
    refine ⟨_, rfl, ?_⟩
    have hgd : Wd.grownBy W1 none := ⟨hb.os, hb.tape, hb.output, hb.size, fun k hk _ => hb.block k hk⟩
    have bv : W1.heap[w.heap.size + 1 + 1 + 1]? = some (.cells #[.int .i64 idx, v, .slice none 0 0] 35 (0, 0)) := blk_below (by rw [← hWd]; exact hv) hb
    have brow : W1.ownsRow W0.heap.size 9 1 v pre.length (pre.map fun j => Value.string (sigAt (tx a0) idx (tx msg) j.val)) := World.ownsRow.kept (w := Wd) (by rw [← hWd]; exact hrow.drew) hgd (Classical.em _)
    have bs1 : Boxed W1 w.heap.size 9 (.string a0) := Boxed.kept (W := Wd) (by rw [← hWd]; exact hbs) hgd (by simp)
    have bi1 : Boxed W1 (w.heap.size + 1) 3 (.int .i64 idx) := Boxed.kept (W := Wd) (by rw [← hWd]; exact hbi) hgd (by simp)
    have br1 : W1.heap[w.heap.size + 1 + 1]? = some (.cells #[.int .i64 0, .slice none 0 0, .slice none 0 0] 35 (0, 0)) := blk_below (by rw [← hWd]; exact hbr) hb
    have hB1 : Below w.heap.size w W1 := hbd.trans (hb.mono hbd.size)
    have k1 : KeepsOthers W W1 := KeepsOthers.of_grownBy (row := none) (by rw [← hWd] at hgd; exact ⟨hgd.os, hgd.tape, hgd.output, hgd.size, hgd.block⟩) (fun j o ej _ => by cases ej)
    refine hK.out _ _ ⟨(blk_cell bv 1).trans rfl, bs1.cell, bi1.cell⟩ (fun hHeld => ?_)
    clear hK K
    refine norm_ (a' := ?_) ?_ ?_
    rotate_left
    · show Act.put _ (some 43) _ = _
      simp only [Act.put, List.setIfInBounds_toArray, List.set_cons_zero, List.set_cons_succ, i64_w, i32_w]
      rfl
    refine one_ (i := 7) (N := some 45) #[true, true, true, true, true, true, true, true, false, false, false, false] rfl rfl (one_of rfl (by kernel_rfl)) (by decide) (fun K hK => ?_)
    refine goes_ Tryd.func53 (by kernel_rfl) rfl #[.string t43, .int .i64 (dAt (tx msg) x.val)] (by rfl) rfl rfl (by (try simp only [List.map_toArray, List.map_cons, List.map_nil]); first | done | rfl) ?_
    refine (seal_chain.calls _ _ t45 W1 F2.out).mono ?_
    rintro e W2 ⟨rfl, hb2⟩
    refine ⟨_, rfl, ?_⟩
    have hgd2 : W1.grownBy W2 none := ⟨hb2.os, hb2.tape, hb2.output, hb2.size, fun k hk _ => hb2.block k hk⟩
    replace bv := blk_below bv hb2
    replace brow := brow.kept hgd2 (Classical.em _)
    replace bs1 := bs1.kept hgd2 (by simp)
    replace bi1 := bi1.kept hgd2 (by simp)
    replace br1 := blk_below br1 hb2
    replace hB1 := hB1.trans (hb2.mono hB1.size)
    replace k1 := k1.trans (KeepsOthers.of_grownBy (row := none) hgd2 (fun j o ej _ => by cases ej))
    have hN2 : W0.heap.size ≤ W2.heap.size := Nat.le_trans hN k1.size
    clear hgd hgd2 hb hb2
    refine hK.out _ _ ⟨(blk_cell bv 1).trans rfl, bs1.cell, bi1.cell⟩ (fun hHeld => ?_)
    clear hK K
    refine norm_ (a' := ?_) ?_ ?_
    rotate_left
    · show Act.put _ (some 45) _ = _
      simp only [Act.put, List.setIfInBounds_toArray, List.set_cons_zero, List.set_cons_succ, i64_w, i32_w]
      rfl
    refine one_ (i := 8) (N := some 46) #[true, true, true, true, true, true, true, true, true, false, false, false] rfl rfl (one_of rfl (by kernel_rfl)) (by decide) (fun K hK => ?_)
    refine value_ (w1 := ?_) (v := ?_) (by rfl) rfl ?_ ?_
    rotate_left 2
    · go_simp
      constructor
      · rfl
      · rfl
    refine hK.out _ _ ⟨(blk_cell (blk_alloc bv _) 1).trans rfl, (bs1.alloc _).cell, (bi1.alloc _).cell⟩ (fun hHeld => ?_)
    clear hK K
    refine norm_ (a' := ?_) ?_ ?_
    rotate_left
    · show Act.put _ (some 46) _ = _
      simp only [Act.put, List.setIfInBounds_toArray, List.set_cons_zero, List.set_cons_succ, i64_w, i32_w]
      rfl
    refine last_ (i := 9) (N := some 47) #[true, true, true, true, true, true, true, true, true, true, false, false] rfl rfl (one_of rfl (by kernel_rfl)) (by decide) (fun K hK => ?_)
    refine step_append_cells (w0 := W2) W0.heap.size ?hwant (.tmp 39) (.tmp 46) 22 9 (.string ⟨#[]⟩) 1 16 ?hop Tryd.underlying22 PCb.info9 rfl (by decide) (by omega) v pre.length _ [.string t45] ?hsv ?hxv rfl (by simp [Value.oneCell']) brow (Below.refl _ _) hN2 (by omega) ?_
    (case hop => rfl)
    (case hwant => rfl)
    (case hsv => rfl)
    (case hxv => rfl)
    intro v1 w2 hown2 hb2 hg2 hat2
    obtain ⟨g', cap', rfl⟩ := ownsRow_succ hown2
    refine hK.out _ _ ?_
    clear hK K
    refine norm_ (a' := ?_) ?_ ?_
    rotate_left
    · show Act.put _ (some 47) _ = _
      simp only [Act.put, List.setIfInBounds_toArray, List.set_cons_zero, List.set_cons_succ, i64_w, i32_w]
      rfl
    have hlt2 : w.heap.size + 1 + 1 + 1 < W0.heap.size := by omega
    have bv2 := blk_grown bv hg2 (row_ne brow (by omega))
    have br2 := blk_grown br1 hg2 (row_ne brow (by omega))
    have bs2 := bs1.kept hg2 (row_ne brow (by omega))
    have bi2 := bi1.kept hg2 (row_ne brow (by omega))
    have hs2 : w2.cell? ⟨w.heap.size + 1 + 1 + 1, 1, none⟩ = some v := (blk_cell bv2 1).trans rfl
    have hf2 := blk_frozen bv2 1
    refine pure_ (i := 10) (N := some 48) (v := ?_) (a' := ?_) #[true, true, true, true, true, true, true, true, true, true, true, false] rfl rfl (any_of rfl (by kernel_rfl)) (fun _ _ _ h => h) (Or.inl ⟨by rfl, ?_⟩) ?_ ?_
    rotate_left
    · intro w'
      go_simp
      with_reducible rfl
    rotate_left
    · simp only [Act.put, List.setIfInBounds_toArray, List.set_cons_zero, List.set_cons_succ, i64_w, i32_w]
      rfl
    refine last_ (i := 11) (N := none) #[true, true, true, true, true, true, true, true, true, true, true, true] rfl rfl (one_of rfl (by kernel_rfl)) (by decide) (fun K hK => ?_)
    refine skip_ (w1 := ?_) (by rfl) rfl ?_ ?_
    rotate_left
    · go_simp
      rfl
    refine hK.out _ _ ?_
    clear hK K
    refine done_ (done_of rfl (by kernel_rfl)) ?_
    clear hs2 hf2
    have hown3 := hown2.kept (grownBy_setCellI w2 (w.heap.size + 1 + 1 + 1) 1 (.slice (some ⟨g', 0, none⟩) (pre.length + 1) cap')) (.inr (row_ne hown2 (by omega)).symm)
    have k2 : KeepsOthers W2 w2 := KeepsOthers.of_grownBy hg2 fun j o ej hj => by
      rcases brow.2 with ⟨rfl, _⟩ | ⟨g, cap, cur, rfl, _, hgb, _⟩
      · simp [Value.ownBlock] at ej
      · obtain rfl : j = g := by simpa [Value.ownBlock] using ej.symm
        rw [hgb] at hj; cases hj; rfl
    have k3 := (k1.trans k2).trans (KeepsOthers.setCell w2 ⟨w.heap.size + 1 + 1 + 1, 1, none⟩ (.slice (some ⟨g', 0, none⟩) (pre.length + 1) cap'))
    have hB3 : Below w.heap.size w (w2.setCell ⟨w.heap.size + 1 + 1 + 1, 1, none⟩ (.slice (some ⟨g', 0, none⟩) (pre.length + 1) cap')) := (hB1.trans (hb2.mono (by omega))).setCell (p := ⟨w.heap.size + 1 + 1 + 1, 1, none⟩) (by show w.heap.size ≤ w.heap.size + 1 + 1 + 1; omega) _
    refine ⟨k3.from _, trivial, ⟨⟨_, blk_put (cs' := #[.int .i64 idx, .slice (some ⟨g', 0, none⟩) (pre.length + 1) cap', .slice none 0 0]) bv2 1 _ rfl, ?_⟩, ?_, ?_⟩, ?_, hB3, Nat.le_trans hN k3.size⟩
    · rw [List.length_append, List.map_append, List.map_cons, List.map_nil, ← Hr.out]
      exact hown3
    · exact bs2.kept (grownBy_setCellI w2 (w.heap.size + 1 + 1 + 1) 1 _) (fun e => by injection e with e; omega)
    · exact bi2.kept (grownBy_setCellI w2 (w.heap.size + 1 + 1 + 1) 1 _) (fun e => by injection e with e; omega)
    · exact blk_far br2 (p := ⟨w.heap.size + 1 + 1 + 1, 1, none⟩) (by show w.heap.size + 1 + 1 ≠ w.heap.size + 1 + 1 + 1; omega) _
  case done =>
    rintro D ys W hD rfl ⟨⟨⟨v, hv, hrow⟩, hbs, hbi⟩, hbr, hB, hN⟩ hK
    gi_wp2
    refine wp_mono ?_ (noPanic_le _)
    go_wp2
    rw [List.length_finRange] at hrow
    have hV0 : Kd.R Kd.string 9 W W0.heap.size (fun k => W0.heap.size ≤ k ∧ k < W.heap.size) v (sigL (tx a0) idx (tx msg)) := by
      have e : encs Value.string (sigL (tx a0) idx (tx msg)) = (List.finRange 18).map fun j => Value.string (sigAt (tx a0) idx (tx msg) j.val) := by unfold encs sigL; rw [List.map_map]; rfl
      refine Kd.R_mono (Kd.R_bound (Kd.R_of_own (ok := fun _ => True) ?_ (fun _ _ => trivial))) (fun k hk => ⟨hk.2.1, hk.2.2.1⟩)
      rw [e, sigL_len]
      exact hrow
    clear hrow hst o1 o2 o3 o4 o5 o6 bM bO bR bS bI
    refine start_ (n := 6) (S := fun w' => w'.cell? ⟨w.heap.size, 0, none⟩ = some (.string a0) ∧ w'.cell? ⟨w.heap.size + 1, 0, none⟩ = some (.int .i64 idx)) (ds := []) #[false, false, false, false, false, false] (by kernel_rfl) rfl rfl ⟨hbs.cell, hbi.cell⟩ (fun hHeld => ?_)
    obtain ⟨Wd, hWd⟩ : ∃ Wd, Wd = W.drew := ⟨_, rfl⟩
    rw [← hWd] at hHeld ⊢
    have hV : Kd.R Kd.string 9 Wd W0.heap.size (fun k => W0.heap.size ≤ k ∧ k < W.heap.size) v (sigL (tx a0) idx (tx msg)) := by rw [hWd]; exact Kd.R_drew hV0
    have gO : Wd.heap[w.heap.size + 1 + 1 + 1]? = some (.cells #[.int .i64 idx, v, .slice none 0 0] 35 (0, 0)) := by rw [hWd]; exact hv
    have gR : Wd.heap[w.heap.size + 1 + 1]? = some (.cells #[.int .i64 0, .slice none 0 0, .slice none 0 0] 35 (0, 0)) := by rw [hWd]; exact hbr
    have gD : Wd.heap[D]? = some (.deferred (some [])) := by rw [hWd]; exact hK
    have hBd : Below w.heap.size w Wd := by rw [hWd]; exact hB.drew
    have hNd : W0.heap.size ≤ Wd.heap.size := by rw [hWd]; exact hN
    have hsW : W.heap.size = Wd.heap.size := by rw [hWd]; rfl
    rw [hsW] at hV
    have hDlt := blk_lt gD
    clear hV0 hv hbr hK hB hN hWd hbs hbi hsW
    refine take_ (i := 0) (N := some 49) (v := ?_) (a' := ?_) #[true, false, false, false, false, false] rfl rfl (take_of rfl (by kernel_rfl)) (fun _ _ _ h => h) (Or.inl ⟨by rfl, ?_⟩) hHeld ?_ ?_
    rotate_left
    · rintro w' ⟨s0, s1⟩
      go_simp
      with_reducible rfl
    rotate_left
    · simp only [Act.put, List.setIfInBounds_toArray, List.set_cons_zero, List.set_cons_succ, i64_w, i32_w]
      rfl
    refine pure_ (i := 1) (N := some 50) (v := ?_) (a' := ?_) #[true, true, false, false, false, false] rfl rfl (any_of rfl (by kernel_rfl)) (fun _ _ _ h => h) (Or.inl ⟨by rfl, ?_⟩) ?_ ?_
    rotate_left
    · intro w'
      go_simp
      with_reducible rfl
    rotate_left
    · simp only [Act.put, List.setIfInBounds_toArray, List.set_cons_zero, List.set_cons_succ, i64_w, i32_w]
      rfl
    refine take_ (i := 3) (N := some 52) (v := ?_) (a' := ?_) #[true, true, false, true, false, false] rfl rfl (take_of rfl (by kernel_rfl)) (fun _ _ _ h => h) (Or.inl ⟨by rfl, ?_⟩) hHeld ?_ ?_
    rotate_left
    · rintro w' ⟨s0, s1⟩
      go_simp
      with_reducible rfl
    rotate_left
    · simp only [Act.put, List.setIfInBounds_toArray, List.set_cons_zero, List.set_cons_succ, i64_w, i32_w]
      rfl
    refine one_ (i := 2) (N := some 51) #[true, true, true, true, false, false] rfl rfl (one_of rfl (by kernel_rfl)) (by decide) (fun K hK => ?_)
    refine goes_ Tryd.func48 (by kernel_rfl) rfl #[.string a0, .int .i64 hgt] (by rfl) rfl rfl (by (try simp only [List.map_toArray, List.map_cons, List.map_nil]); first | done | rfl) ?_
    refine (keys_calls a0 hgt Wd hs (by omega) (Glob.below hG hBd)).mono ?_
    rintro e W1 ⟨vl, rfl, hL, hb⟩
    refine ⟨_, rfl, ?_⟩
    replace gO := blk_below gO hb
    replace gR := blk_below gR hb
    replace gD := blk_below gD hb
    replace hV := Kd.R_below hV hb
    replace hBd := hBd.trans (hb.mono hBd.size)
    have hN1 := Nat.le_trans hNd hb.size
    have hlev := Kd.R_mono (Kd.R_bound hL) (ok' := fun k => Wd.heap.size ≤ k ∧ k < W1.heap.size) (fun k hk => ⟨hk.2.1, hk.2.2.1⟩)
    have hs1 := hb.size
    refine hK.out _ _ ⟨(hb.cell (World.block_lt_of_cell? _ _ hHeld.1)).trans hHeld.1, (hb.cell (World.block_lt_of_cell? _ _ hHeld.2)).trans hHeld.2⟩ (fun hHeld1 => ?_)
    clear hHeld
    have hHeld := hHeld1
    clear hHeld1
    clear hK K
    refine norm_ (a' := ?_) ?_ ?_
    rotate_left
    · show Act.put _ (some 51) _ = _
      simp only [Act.put, List.setIfInBounds_toArray, List.set_cons_zero, List.set_cons_succ, i64_w, i32_w]
      rfl
    refine pure_ (i := 4) (N := some 13) (v := ?_) (a' := ?_) #[true, true, true, true, true, false] rfl rfl (any_of rfl (by kernel_rfl)) (fun _ _ _ h => h) (Or.inl ⟨by rfl, ?_⟩) ?_ ?_
    rotate_left
    · intro w'
      go_simp
      with_reducible rfl
    rotate_left
    · simp only [Act.put, List.setIfInBounds_toArray, List.set_cons_zero, List.set_cons_succ, i64_w, i32_w]
      rfl
    refine pure_ (i := 5) (N := some 14) (v := ?_) (a' := ?_) #[true, true, true, true, true, true] rfl rfl (any_of rfl (by kernel_rfl)) (fun _ _ _ h => h) (Or.inl ⟨by rfl, ?_⟩) ?_ ?_
    rotate_left
    · intro w'
      go_simp
      with_reducible rfl
    rotate_left
    · simp only [Act.put, List.setIfInBounds_toArray, List.set_cons_zero, List.set_cons_succ, i64_w, i32_w]
      rfl
    refine done_ (done_of rfl (by kernel_rfl)) ?_
    clear hL hb
    obtain ⟨N0, hN0⟩ : ∃ N0, N0 = W0.heap.size := ⟨_, rfl⟩
    rw [← hN0] at hV hN1 hNd
    obtain ⟨N1, hN1'⟩ : ∃ N1, N1 = W1.heap.size := ⟨_, rfl⟩
    have hgN : w.heap.size + 5 = N0 := by omega
    have hN01 : N0 ≤ N1 := by omega
    have hDN : D < N1 := by omega
    have hDN0 : N0 ≤ D := by omega
    have hL0 : SignLoop a0 hgt idx msg w D N0 N1 v vl (.int .i64 idx) W1 := by
      refine ⟨0, .slice none 0 0, Nat.zero_le _, by simp, ?_, Kd.R_nil _ _ _ _ _, gO, gR, gD, Kd.R_mono hV (fun k hk => ⟨hk.1, by omega⟩), hBd, by omega⟩
      exact Kd.R_mono (Kd.R_lower hlev (by omega)) (fun k hk => ⟨by omega, by simp [Value.ownBlock]⟩)
    clear hlev gO gR gD hV hBd hDlt hs1 hHeld hN1 hsz hB0 hD hNd hN0 hN1'
    go_wp2
    go_loopw [13, 14] (fun l i wr => SignLoop a0 hgt idx msg w D N0 N1 v l i wr) (fun l _ _ => lenV l)
    case atStart => exact hL0
    case round =>
      clear hL0
      obtain ⟨j, u, hj, rfl, hL, hU, gO, gR, gD, hV, hB, hN⟩ := hrel
      obtain ⟨Al, Ac, rfl⟩ := Kd.R_slice hL
      have hlen := lvl_len (tx a0) (2 ^ (hgt - j)) j
      have hLC := (Kd.R_reads' hL).2
      rw [hlen] at hLC hL ⊢
      have hLL := lvl_size (tx a0) (2 ^ (hgt - j)) j
      by_cases hjh : j < hgt
      · obtain ⟨m, hm2⟩ : ∃ m, 2 ^ (hgt - j) = 2 * m := ⟨2 ^ (hgt - j - 1), by rw [show hgt - j = hgt - j - 1 + 1 by omega, Nat.pow_succ, Nat.mul_comm]; rfl⟩
        have hx0 : idx / 2 ^ j < 2 ^ (hgt - j) := by
          rw [Nat.div_lt_iff_lt_mul (Nat.two_pow_pos j), ← Nat.pow_add, show hgt - j + j = hgt by omega, hP]; exact hi
        have hs0 : Dig.sib (idx / 2 ^ j) < 2 * m := sib_lt (by rw [← hm2]; exact hx0)
        obtain ⟨x, hx⟩ : ∃ x, idx / 2 ^ j = x := ⟨_, rfl⟩
        obtain ⟨sx, hsx⟩ : ∃ sx, Dig.sib x = sx := ⟨_, rfl⟩
        have hp9 : 2 * m ≤ 256 := by rw [← hm2]; exact Nat.le_trans (pow_le (show hgt - j ≤ 8 by omega)) (by decide)
        rw [hx, hsx] at hs0
        rw [hx] at hx0 ⊢
        obtain ⟨n, hn⟩ : ∃ n, n = 2 * m := ⟨_, rfl⟩
        rw [← hn] at hm2 hs0 hp9
        rw [hm2] at hx0 hL hLC hlen hLL ⊢
        obtain ⟨al, rfl, hcell⟩ := Kd.at_string hLC.2 (sx : Int) (by omega) (by omega)
        rw [Int.toNat_natCast] at hcell
        have hX : bits .xor .i64 (x : Int) 1 = (sx : Int) := by rw [xor_sib x (by omega), hsx]
        have hq0 : ((0 : Int) ≤ (sx : Int)) = True := eq_true (by omega)
        have hq1 : ((sx : Int) < (n : Int)) = True := eq_true (by omega)
        have HX := Lib.hid (And.intro hx (And.intro hsx (And.intro hm2 (And.intro hn (And.intro hlen (And.intro hLL hLC.1))))))
        have d1 : decide ((1 : Int) < (n : Int)) = true := decide_eq_true (by omega)
        have hsz5 : w.heap.size + 5 ≤ N0 := by omega
        clear hx hsx hn hm2 hlen hLL hP hpow hgN
        go_wp2
        clear d1
        have hb2 : (al.add sx).block < wr.heap.size := World.block_lt_of_cell? _ _ hcell
        refine start_ (n := 11) (S := fun w' => w'.cell? ⟨w.heap.size + 1 + 1 + 1, 2, none⟩ = some u ∧ w'.cell? (al.add sx) = some (.string (rdOf ByteArray.empty (lvl (tx a0) n j) (sx : Int)))) (ds := [8, 10]) #[false, false, false, false, false, false, false, false, false, false, false] (by kernel_rfl) rfl rfl ⟨(blk_cell gO 2).trans rfl, hcell⟩ (fun hHeld => ?_)
        generalize ht66 : rdOf ByteArray.empty (lvl (tx a0) n j) (sx : Int) = t66 at hHeld ⊢
        have HT66 := Lib.hid ht66
        clear ht66 hcell
        obtain ⟨Wd, hWd⟩ : ∃ Wd, Wd = wr.drew := ⟨_, rfl⟩
        rw [← hWd] at hHeld ⊢
        have hLd : Kd.R Kd.string 9 Wd N0 (fun k => N0 ≤ k ∧ some k ≠ u.ownBlock) (.slice (some al) n Ac) (lvl (tx a0) n j) := by rw [hWd]; exact Kd.R_drew hL
        replace hU : Kd.R Kd.string 9 Wd N1 (fun k => N1 ≤ k) u (pathL (tx a0) idx j) := by rw [hWd]; exact Kd.R_drew hU
        replace hV : Kd.R Kd.string 9 Wd N0 (fun k => N0 ≤ k ∧ k < N1) v (sigL (tx a0) idx (tx msg)) := by rw [hWd]; exact Kd.R_drew hV
        replace gO : Wd.heap[w.heap.size + 1 + 1 + 1]? = some (.cells #[.int .i64 idx, v, u] 35 (0, 0)) := by rw [hWd]; exact gO
        replace gR : Wd.heap[w.heap.size + 1 + 1]? = some (.cells #[.int .i64 0, .slice none 0 0, .slice none 0 0] 35 (0, 0)) := by rw [hWd]; exact gR
        replace gD : Wd.heap[D]? = some (.deferred (some [])) := by rw [hWd]; exact gD
        replace hB : Below w.heap.size w Wd := by rw [hWd]; exact hB.drew
        replace hN : N1 ≤ Wd.heap.size := by rw [hWd]; exact hN
        clear hL hLC hWd hb2
        refine pure_ (i := 0) (N := some 60) (v := ?_) (a' := ?_) #[true, false, false, false, false, false, false, false, false, false, false] rfl rfl (any_of rfl (by kernel_rfl)) (fun _ _ _ h => h) (Or.inl ⟨by rfl, ?_⟩) ?_ ?_
        rotate_left
        · intro w'
          go_simp
          with_reducible rfl
        rotate_left
        · simp only [Act.put, List.setIfInBounds_toArray, List.set_cons_zero, List.set_cons_succ, i64_w, i32_w]
          rfl
        refine take_ (i := 1) (N := some 61) (v := ?_) (a' := ?_) #[true, true, false, false, false, false, false, false, false, false, false] rfl rfl (take_of rfl (by kernel_rfl)) (fun _ _ _ h => h) (Or.inl ⟨by rfl, ?_⟩) hHeld ?_ ?_
        rotate_left
        · rintro w' ⟨s0, s1⟩
          go_simp
          with_reducible rfl
        rotate_left
        · simp only [Act.put, List.setIfInBounds_toArray, List.set_cons_zero, List.set_cons_succ, i64_w, i32_w]
          rfl
        refine pure_ (i := 2) (N := some 62) (v := ?_) (a' := ?_) #[true, true, true, false, false, false, false, false, false, false, false] rfl rfl (any_of rfl (by kernel_rfl)) (fun _ _ _ h => h) (Or.inl ⟨by rfl, ?_⟩) ?_ ?_
        rotate_left
        · intro w'
          go_simp
          with_reducible rfl
        rotate_left
        · simp only [Act.put, List.setIfInBounds_toArray, List.set_cons_zero, List.set_cons_succ, i64_w, i32_w]
          rfl
        refine pure_ (i := 3) (N := some 63) (v := ?_) (a' := ?_) #[true, true, true, true, false, false, false, false, false, false, false] rfl rfl (any_of rfl (by kernel_rfl)) (fun _ _ _ h => h) (Or.inl ⟨by rfl, ?_⟩) ?_ ?_
        rotate_left
        · intro w'
          go_simp
          with_reducible rfl
        rotate_left
        · simp only [Act.put, List.setIfInBounds_toArray, List.set_cons_zero, List.set_cons_succ, i64_w, i32_w]
          rfl
        refine pure_ (i := 4) (N := some 64) (v := .int .i64 sx) (a' := ?_) #[true, true, true, true, true, false, false, false, false, false, false] rfl rfl (any_of rfl (by kernel_rfl)) (fun _ _ _ h => h) (Or.inl ⟨by rfl, ?_⟩) ?_ ?_
        · intro w'
          go_simp
        rotate_left
        · simp only [Act.put, List.setIfInBounds_toArray, List.set_cons_zero, List.set_cons_succ, i64_w, i32_w]
          rfl
        clear hX
        refine pure_ (i := 5) (N := some 65) (v := ?_) (a' := ?_) #[true, true, true, true, true, true, false, false, false, false, false] rfl rfl (any_of rfl (by kernel_rfl)) (fun _ _ _ h => h) (Or.inl ⟨by rfl, ?_⟩) ?_ ?_
        rotate_left
        · intro w'
          go_simp
          with_reducible rfl
        rotate_left
        · simp only [Act.put, List.setIfInBounds_toArray, List.set_cons_zero, List.set_cons_succ, i64_w, i32_w]
          rfl
        refine take_ (i := 6) (N := some 66) (v := ?_) (a' := ?_) #[true, true, true, true, true, true, true, false, false, false, false] rfl rfl (take_of rfl (by kernel_rfl)) (fun _ _ _ h => h) (Or.inl ⟨by rfl, ?_⟩) hHeld ?_ ?_
        rotate_left
        · rintro w' ⟨s0, s1⟩
          go_simp
          with_reducible rfl
        rotate_left
        · simp only [Act.put, List.setIfInBounds_toArray, List.set_cons_zero, List.set_cons_succ, i64_w, i32_w]
          rfl
        refine one_ (i := 7) (N := some 67) #[true, true, true, true, true, true, true, true, false, false, false] rfl rfl (one_of rfl (by kernel_rfl)) (by decide) (fun K hK => ?_)
        refine value_ (w1 := ?_) (v := ?_) (by rfl) rfl ?_ ?_
        rotate_left 2
        · go_simp
          constructor
          · rfl
          · rfl
        refine hK.out _ _ ⟨(blk_cell (blk_alloc gO _) 2).trans rfl, (World.cell?_alloc_lt _ _ _ (World.block_lt_of_cell? _ _ hHeld.2)).trans hHeld.2⟩ (fun hHeld1 => ?_)
        clear hHeld
        clear hK K
        refine norm_ (a' := ?_) ?_ ?_
        rotate_left
        · show Act.put _ (some 67) _ = _
          simp only [Act.put, List.setIfInBounds_toArray, List.set_cons_zero, List.set_cons_succ, i64_w, i32_w]
          rfl
        refine last_ (i := 8) (N := some 68) #[true, true, true, true, true, true, true, true, true, false, false] rfl rfl (one_of rfl (by kernel_rfl)) (by decide) (fun K hK => ?_)
        have hpl : (pathL (tx a0) idx j).length ≤ 8 := by rw [pathL_len]; omega
        refine Kd.R_append_step Kd.string (w0 := Wd) N1 (by rfl) (.tmp 61) (.tmp 67) 22 9 (.string ⟨#[]⟩) 16 rfl Tryd.underlying22 PCb.info9 rfl (by decide) (by omega) u (pathL (tx a0) idx j) t66 [.string t66] (fun k => N1 ≤ k) (fun _ => False) rfl rfl ?aP (fun _ hk => hk.elim) ?aF ?aO ?aB ?aS ?aL ?_
        (case aP => exact rfl)
        (case aB => exact (Below.refl _ _))
        (case aF => exact (fun k hk => Nat.le_trans hN hk))
        (case aO => exact hU)
        (case aS => exact hN)
        (case aL => omega)
        intro u1 w2 hU1 hb2 hg2 hat2
        have hL2 := Kd.R_after hLd hg2 hat2
        have hune : ∀ k, k < N1 → some k ≠ u.ownBlock := fun k hk e => by have := Kd.R_base hU k e.symm; omega
        have gO2 := blk_grown gO hg2 (hune _ (by omega))
        have gR2 := blk_grown gR hg2 (hune _ (by omega))
        have gD2 := blk_grown gD hg2 (hune _ hDN)
        have hV2 := Kd.R_grown hV hg2 (fun k hk => hune k hk.2)
        have hB2 : Below w.heap.size w w2 := hB.trans (hb2.mono (by omega))
        have hN2 : N1 ≤ w2.heap.size := Nat.le_trans hN hg2.size
        obtain ⟨Au, Acu, rfl⟩ := Kd.R_slice hU1
        have hpl1 : (pathL (tx a0) idx j ++ [t66]).length = j + 1 := by rw [List.length_append, pathL_len]; rfl
        rw [hpl1] at hU1 ⊢
        clear hpl1 hpl
        clear hLd gO gR gD hV hB hN hg2 hat2 hb2 hU hune hHeld1
        refine hK.out _ _ ?_
        clear hK K
        refine norm_ (a' := ?_) ?_ ?_
        rotate_left
        · show Act.put _ (some 68) _ = _
          simp only [Act.put, List.setIfInBounds_toArray, List.set_cons_zero, List.set_cons_succ, i64_w, i32_w]
          rfl
        refine pure_ (i := 9) (N := some 69) (v := ?_) (a' := ?_) #[true, true, true, true, true, true, true, true, true, true, false] rfl rfl (any_of rfl (by kernel_rfl)) (fun _ _ _ h => h) (Or.inl ⟨by rfl, ?_⟩) ?_ ?_
        rotate_left
        · intro w'
          go_simp
          with_reducible rfl
        rotate_left
        · simp only [Act.put, List.setIfInBounds_toArray, List.set_cons_zero, List.set_cons_succ, i64_w, i32_w]
          rfl
        refine last_ (i := 10) (N := none) #[true, true, true, true, true, true, true, true, true, true, true] rfl rfl (one_of rfl (by kernel_rfl)) (by decide) (fun K hK => ?_)
        have hs2 : w2.cell? ⟨w.heap.size + 1 + 1 + 1, 2, none⟩ = some u := (blk_cell gO2 2).trans rfl
        have hf2 := blk_frozen gO2 2
        refine skip_ (w1 := ?_) (by rfl) rfl ?_ ?_
        rotate_left
        · go_simp
          rfl
        refine hK.out _ _ ?_
        clear hK K
        refine done_ (done_of rfl (by kernel_rfl)) ?_
        clear hs2 hf2
        have hL3 := Kd.R_far hL2 (p := ⟨w.heap.size + 1 + 1 + 1, 2, none⟩) (fun k hk e => by have := hk.1; have e' : k = w.heap.size + 1 + 1 + 1 := e; omega) (.slice Au (j + 1) Acu)
        have hU3 := Kd.R_far hU1 (p := ⟨w.heap.size + 1 + 1 + 1, 2, none⟩) (fun k hk e => by have e' : k = w.heap.size + 1 + 1 + 1 := e; omega) (.slice Au (j + 1) Acu)
        have hV3 := Kd.R_far hV2 (p := ⟨w.heap.size + 1 + 1 + 1, 2, none⟩) (fun k hk e => by have := hk.1; have e' : k = w.heap.size + 1 + 1 + 1 := e; omega) (.slice Au (j + 1) Acu)
        have gO3 := blk_put (cs' := #[.int .i64 idx, v, .slice Au (j + 1) Acu]) gO2 2 (.slice Au (j + 1) Acu) rfl
        have gR3 := blk_far gR2 (p := ⟨w.heap.size + 1 + 1 + 1, 2, none⟩) (by show w.heap.size + 1 + 1 ≠ w.heap.size + 1 + 1 + 1; omega) (.slice Au (j + 1) Acu)
        have gD3 := (Below.heap_setCell w2 ⟨w.heap.size + 1 + 1 + 1, 2, none⟩ (.slice Au (j + 1) Acu) D (by show D ≠ w.heap.size + 1 + 1 + 1; omega)).trans gD2
        have hB3 := hB2.setCell (p := ⟨w.heap.size + 1 + 1 + 1, 2, none⟩) (by show w.heap.size ≤ w.heap.size + 1 + 1 + 1; omega) (.slice Au (j + 1) Acu)
        have hN3 : N1 ≤ (w2.setCell ⟨w.heap.size + 1 + 1 + 1, 2, none⟩ (.slice Au (j + 1) Acu)).heap.size := Nat.le_trans hN2 (KeepsWalks.setCell _ _ _).size
        clear hL2 hU1 hV2 gO2 gR2 gD2 hB2 hN2
        generalize w2.setCell ⟨w.heap.size + 1 + 1 + 1, 2, none⟩ (.slice Au (j + 1) Acu) = W3 at *
        have HA := Lib.hid (above_lvl (tx a0) al Ac n m j W3 hL3 HX.out.2.2.2.1 (by have := HX.out.2.2.2.1; omega) (by have := HX.out.2.2.2.1; omega) (Glob.below hG hB3))
        go_wp2_with (go_at_call 49; refine HA.out.mono ?_; rintro e w4 ⟨v4, rfl, hL4, hb4⟩)
        clear HA
        obtain ⟨hx, hsx, hm2, hn, hlen, hLL, hLC⟩ := HX.out
        have hp1 : pathL (tx a0) idx j ++ [t66] = pathL (tx a0) idx (j + 1) := by
          rw [← HT66.out]
          unfold rdOf pathL
          rw [Int.toNat_natCast, lvl_get _ _ _ _ hs0, List.range_succ, List.map_append, ← hsx, ← hx]; rfl
        have hm3 : 2 ^ (hgt - (j + 1)) = m := by
          have e : 2 ^ (hgt - j) = 2 * 2 ^ (hgt - (j + 1)) := by rw [show hgt - j = hgt - (j + 1) + 1 by omega, Nat.pow_succ, Nat.mul_comm]
          omega
        rw [hp1] at hU3
        have hU4 := Kd.R_below hU3 hb4
        refine ⟨⟨j + 1, .slice Au (j + 1) Acu, by omega, ?_, ?_, hU4, blk_below gO3 hb4, blk_below gR3 hb4, blk_below gD3 hb4, Kd.R_below hV3 hb4, hB3.trans (hb4.mono (by have := hB3.size; omega)), Nat.le_trans hN3 hb4.size⟩, ?_⟩
        · rw [Nat.pow_succ, ← Nat.div_div_eq_div_mul, hx]; rfl
        · rw [hm3]
          refine Kd.R_mono (Kd.R_lower (Kd.R_bound hL4) (by omega)) (fun k hk => ⟨by omega, fun e => ?_⟩)
          have := Kd.R_lt hU3 k e.symm
          omega
        · obtain ⟨A4, c4, rfl⟩ := Kd.R_slice hL4
          show (lvl (tx a0) m (j + 1)).length < n
          rw [lvl_len]; omega
      · obtain rfl : j = hgt := by omega
        have h1 : 2 ^ (j - j) = 1 := by rw [Nat.sub_self]
        rw [h1] at hL hLC hlen hLL ⊢
        clear hP hpow h1 hLL hlen hi hp2
        obtain ⟨Au, Acu, rfl⟩ := Kd.R_slice hU
        obtain ⟨Av, Acv, rfl⟩ := Kd.R_slice hV
        have hc0 : wr.cell? ⟨w.heap.size + 1 + 1 + 1, 0, none⟩ = some (.int .i64 idx) := (blk_cell gO 0).trans rfl
        have hc1 : wr.cell? ⟨w.heap.size + 1 + 1 + 1, 1, none⟩ = some (.slice Av (sigL (tx a0) idx (tx msg)).length Acv) := (blk_cell gO 1).trans rfl
        have hc2 : wr.cell? ⟨w.heap.size + 1 + 1 + 1, 2, none⟩ = some (.slice Au (pathL (tx a0) idx j).length Acu) := (blk_cell gO 2).trans rfl
        have hr0 : wr.cell? ⟨w.heap.size + 1 + 1, 0, none⟩ = some (.int .i64 0) := (blk_cell gR 0).trans rfl
        have hr1 : wr.cell? ⟨w.heap.size + 1 + 1, 1, none⟩ = some (.slice none 0 0) := (blk_cell gR 1).trans rfl
        have hr2 : wr.cell? ⟨w.heap.size + 1 + 1, 2, none⟩ = some (.slice none 0 0) := (blk_cell gR 2).trans rfl
        have hf0 := blk_frozen gR 0
        have hf1 := blk_frozen gR 1
        have hf2 := blk_frozen gR 2
        go_wp2
        clear hc0 hc1 hc2 hr0 hr1 hr2 hf0 hf1 hf2
        refine sign_end (gR := w.heap.size + 1 + 1) ?_ ?_ (by omega) (by omega) (by omega) (by omega) hU hV gR gD hB
        · rfl
        · rfl
end Go.Proofs.YteleheamnighkaaDoor
end
section
set_option linter.unusedVariables false
set_option linter.unusedSimpArgs false
namespace Go.Proofs.YteleheamnighkaaDoor
open Go.RowKit Go.Shelf Go.DoorKit Go.DoorRound Go.Proofs.YteleheamnighkaaDoorW.PrintWords Go.Proofs.YteleheamnighkaaDoorW.PrintLast Go.Proofs.YteleheamnighkaaDoorW.PrintMore
def BadTo (w : World) (e : Ending) (w' : World) : Prop := e = .returned (.tuple #[.agg #[.int .i64 0, .slice none 0 0, .slice none 0 0], .int .i64 1]) ∧ Below w.heap.size w w'
theorem bad_end {w : World} {a0 : ByteArray} {a2 : Int} {nq : Nat} {tm : Array Value} (t9 : tm.getD 9 undef = .int .i64 1) (t8 : tm.getD 8 undef = .pointer (some ⟨w.heap.size + 1 + 1, 0, none⟩)) :
    bodyPost Tryd.prog Tryd.f30 (fun e w' => BadTo w e w') .ret { tmps := tm, defers := [] }
      (((((((w.alloc (.cells #[.string a0] 9)).alloc (.cells #[.int .i64 a2] 3)).alloc (.cells #[.int .i64 0, .slice none 0 0, .slice none 0 0] 35)).drewN nq).setCell ⟨w.heap.size + 1 + 1, 0, none⟩ (.int .i64 0)).setCell ⟨w.heap.size + 1 + 1, 1, none⟩ (.slice none 0 0)).setCell ⟨w.heap.size + 1 + 1, 2, none⟩ (.slice none 0 0)) := by
  have k0 := blk_new ((w.alloc (.cells #[.string a0] 9)).alloc (.cells #[.int .i64 a2] 3)) (.cells #[.int .i64 0, .slice none 0 0, .slice none 0 0] 35)
  simp only [World.size_alloc] at k0
  have k1 := blk_put (cs' := #[.int .i64 0, .slice none 0 0, .slice none 0 0]) (blk_put (cs' := #[.int .i64 0, .slice none 0 0, .slice none 0 0]) (blk_put (cs' := #[.int .i64 0, .slice none 0 0, .slice none 0 0]) (blk_drewN k0 nq) 0 (.int .i64 0) rfl) 1 (.slice none 0 0) rfl) 2 (.slice none 0 0) rfl
  refine bodyPost_ret (results_ct rfl _ _ (w.heap.size + 1 + 1) 35 _ (0, 0) _ t8 k1 Tryd.underlying35 rfl (by kernel_rfl)) rfl ⟨?_, ?_⟩
  · rw [t9]
  · have hb := pw_below_drewN (below_alloc (below_alloc (below_alloc (Below.refl w.heap.size w) (.cells #[.string a0] 9)) (.cells #[.int .i64 a2] 3)) (.cells #[.int .i64 0, .slice none 0 0, .slice none 0 0] 35)) nq
    have hp : w.heap.size ≤ w.heap.size + 1 + 1 := by omega
    exact ((hb.setCell (p := ⟨w.heap.size + 1 + 1, 0, none⟩) hp _).setCell (p := ⟨w.heap.size + 1 + 1, 1, none⟩) hp _).setCell (p := ⟨w.heap.size + 1 + 1, 2, none⟩) hp _
set_option maxRecDepth 100000 in
set_option maxHeartbeats 4000000 in
theorem sign_bad (a0 : ByteArray) (a1 a2 : Int) (msg : ByteArray) (w : World) (h : a1 < 0 ∨ 8 < a1 ∨ a2 < 0 ∨ (2 : Int) ^ a1.toNat ≤ a2) :
    Calls Tryd.prog 30 #[.string a0, .int .i64 a1, .int .i64 a2, .string msg] w fun e w' => BadTo w e w' := by
  by_cases c1 : a1 < 0
  · go_enter Tryd.func30, Tryd.ntmps30
    go_wp2
    have d1 : decide (a1 < 0) = true := decide_eq_true c1
    go_quiet (fail)
    clear d1
    go_wp2
    refine bad_end ?_ ?_
    · rfl
    · rfl
  · have d1 : decide (a1 < 0) = false := decide_eq_false c1
    by_cases c2 : 8 < a1
    · go_enter Tryd.func30, Tryd.ntmps30
      go_wp2
      have d2 : decide (8 < a1) = true := decide_eq_true c2
      go_quiet (fail)
      clear d1 d2
      go_wp2
      refine bad_end ?_ ?_
      · rfl
      · rfl
    · have d2 : decide (8 < a1) = false := decide_eq_false c2
      by_cases c3 : a2 < 0
      · go_enter Tryd.func30, Tryd.ntmps30
        go_wp2
        have d3 : decide (a2 < 0) = true := decide_eq_true c3
        go_quiet (fail)
        clear d1 d2 d3
        go_wp2
        refine bad_end ?_ ?_
        · rfl
        · rfl
      · have h4 : (2 : Int) ^ a1.toNat ≤ a2 := by rcases h with h | h | h | h <;> first | exact absurd h (by assumption) | exact h
        obtain ⟨n, rfl⟩ := Int.eq_ofNat_of_zero_le (show 0 ≤ a1 by omega)
        rw [Int.toNat_natCast] at h4
        have hp : 2 ^ n ≤ 256 := Nat.le_trans (pow_le (show n ≤ 8 by omega)) (by decide)
        have hpow : (2 : Int) ^ n = ((2 ^ n : Nat) : Int) := by simp
        generalize 2 ^ n = Pw at *
        rw [hpow] at h4
        have d5 : IntKind.i64.wrap (Pw : Int) = (Pw : Int) := IntWalk.i64_in _ (by omega)
        have d3 : decide (a2 < 0) = false := decide_eq_false c3
        have d4 : decide ((Pw : Int) ≤ a2) = true := decide_eq_true h4
        have c2' : ¬ (8 : Int) < (n : Int) := c2
        clear h h4
        go_enter Tryd.func30, Tryd.ntmps30
        go_wp2
        go_quiet (fail)
        clear d1 d2 d3 d4 d5 hpow
        go_wp2
        refine bad_end ?_ ?_
        · rfl
        · rfl
def signIn (a0 a3 : ByteArray) : Prop := Small a0.size ∧ Big a3.size
instance (a0 a3 : ByteArray) : Decidable (signIn a0 a3) := inferInstanceAs (Decidable (Small a0.size ∧ Big a3.size))
def signBad (a1 a2 : Int) : Prop := a1 < 0 ∨ 8 < a1 ∨ a2 < 0 ∨ (2 : Int) ^ a1.toNat ≤ a2
instance (a1 a2 : Int) : Decidable (signBad a1 a2) := inferInstanceAs (Decidable (a1 < 0 ∨ 8 < a1 ∨ a2 < 0 ∨ (2 : Int) ^ a1.toNat ≤ a2))
def signR (s : Dig.Txt) (a1 a2 : Int) (m : Dig.Txt) : Int × List ByteArray × List ByteArray × Int :=
  if signBad a1 a2 then (0, [], [], 1) else (a2, sigL s a2.toNat m, pathL s a2.toNat a1.toNat, 0)
def seal_Sign.f (a0 : ByteArray) (a1 a2 : Int) (a3 : ByteArray) : Option (Int × List ByteArray × List ByteArray × Int) := if signIn a0 a3 then some (signR (tx a0) a1 a2 (tx a3)) else none
theorem seal_Sign.calls (a0 : ByteArray) (a1 a2 : Int) (a3 : ByteArray) (r1 : Int) (r2 r3 : List ByteArray) (r4 : Int) (w : World) (h : seal_Sign.f a0 a1 a2 a3 = some (r1, r2, r3, r4)) (hG : Glob w) :
    Calls Tryd.prog 30 #[.string a0, .int .i64 a1, .int .i64 a2, .string a3] w fun e w' => ∃ v1_ v2_ : Value, e = .returned (.tuple #[.agg #[.int .i64 r1, v1_, v2_], .int .i64 r4]) ∧ Kd.R Kd.string 9 w' w.heap.size (fun k_ => some k_ ≠ (v2_ : Value).ownBlock) v1_ r2 ∧ Kd.R Kd.string 9 w' w.heap.size (fun k_ => some k_ ≠ (v1_ : Value).ownBlock) v2_ r3 ∧ Below w.heap.size w w' := by
  obtain ⟨⟨hs, hm⟩, hr⟩ := if_out h
  unfold signR at hr
  by_cases hb : signBad a1 a2
  · rw [if_pos hb] at hr
    injection hr with h1 hr
    injection hr with h2 hr
    injection hr with h3 h4
    subst h1 h2 h3 h4
    refine (sign_bad a0 a1 a2 a3 w hb).mono ?_
    rintro e w' ⟨rfl, hB⟩
    exact ⟨_, _, rfl, Kd.R_nil _ _ _ _ _, Kd.R_nil _ _ _ _ _, hB⟩
  · rw [if_neg hb] at hr
    injection hr with h1 hr
    injection hr with h2 hr
    injection hr with h3 h4
    subst h1 h2 h3 h4
    unfold signBad at hb
    obtain ⟨n, rfl⟩ := Int.eq_ofNat_of_zero_le (show 0 ≤ a1 by omega)
    obtain ⟨i, rfl⟩ := Int.eq_ofNat_of_zero_le (show 0 ≤ a2 by omega)
    rw [Int.toNat_natCast] at hb
    have hi : i < 2 ^ n := by
      have hpow : (2 : Int) ^ n = ((2 ^ n : Nat) : Int) := by simp
      rw [hpow] at hb
      generalize 2 ^ n = P at *
      omega
    exact callsIn_wide.1 (sign_in a0 n i a3 w hs hm (by omega) hi hG)
theorem public_l0 (s : Dig.Txt) : ∀ (d j e : Nat), d ≤ 9 → PCg.seal_Public.l0 (d + e + 1) (lvl s (2 ^ d) j) = some (ofT (Dig.tree s (j + d) 0), 0)
  | 0, j, e, _ => by
    have hl := lvl_len s (2 ^ 0) j
    have hl : ((lvl s (2 ^ 0) j).length : Int) = 1 := by rw [hl]; rfl
    rw [PCg.seal_Public.l0, if_neg (by omega), if_pos (by omega)]
    unfold rdOf
    rw [show (0 : Int).toNat = 0 from rfl, lvl_get _ _ _ _ (by decide)]; rfl
  | d + 1, j, e, h => by
    have hp : 2 ^ (d + 1) = 2 * 2 ^ d := by rw [Nat.pow_succ, Nat.mul_comm]
    have hp0 := Nat.two_pow_pos d
    have hp9 : 2 ^ d ≤ 256 := Nat.le_trans (pow_le (show d ≤ 8 by omega)) (by decide)
    have hl := lvl_len s (2 ^ (d + 1)) j
    have hA : seal_above.f (lvl s (2 ^ (d + 1)) j) = some (lvl s (2 ^ d) (j + 1)) := by
      unfold seal_above.f
      rw [if_pos, hp, upL_lvl]
      refine ⟨⟨by omega, fun x hx => by rw [lvl_size s _ j x hx]; decide⟩, by omega, by omega⟩
    rw [show d + 1 + e + 1 = (d + e + 1) + 1 by omega, PCg.seal_Public.l0, if_pos (by omega), hA, Option.bind_some, public_l0 s d (j + 1) e (by omega), show j + 1 + d = j + (d + 1) by omega]
def publicR (s : Dig.Txt) (a1 : Int) : ByteArray × Int := if a1 < 0 ∨ 8 < a1 then (⟨#[]⟩, 1) else (ofT (Dig.tree s a1.toNat 0), 0)
def seal_Public.f (a0 : ByteArray) (a1 : Int) : Option (ByteArray × Int) := if Small a0.size then some (publicR (tx a0) a1) else none
theorem seal_Public.calls (a0 : ByteArray) (a1 : Int) (r1 : ByteArray) (r2 : Int) (w : World) (h : seal_Public.f a0 a1 = some (r1, r2)) (hG : Glob w) :
    Calls Tryd.prog 28 #[.string a0, .int .i64 a1] w fun e w' => e = .returned (.tuple #[.string r1, .int .i64 r2]) ∧ Below w.heap.size w w' := by
  obtain ⟨hs, hr⟩ := if_out h
  unfold publicR at hr
  by_cases hb : a1 < 0 ∨ 8 < a1
  · rw [if_pos hb] at hr
    refine PCg.seal_Public.calls 1 a0 a1 r1 r2 w ?_ hG
    rw [← hr]
    unfold PCg.seal_Public.f
    by_cases h0 : a1 < 0
    · rw [if_pos h0, PCg.seal_Public.j0, if_pos rfl]
    · have h8 : a1 > 8 := by omega
      rw [if_neg h0, PCg.seal_Public.j0, if_pos (decide_eq_true h8)]
  · rw [if_neg hb] at hr
    obtain ⟨n, rfl⟩ := Int.eq_ofNat_of_zero_le (show 0 ≤ a1 by omega)
    refine PCg.seal_Public.calls (2 ^ n + n + 1 + 1) a0 n r1 r2 w ?_ hG
    rw [← hr]
    unfold PCg.seal_Public.f
    have h8 : ¬ ((n : Int) > 8) := by omega
    have hk := keys_f a0 n n hs (by omega)
    have hl := public_l0 (tx a0) n 0 (2 ^ n) (by omega)
    rw [show n + 2 ^ n + 1 = 2 ^ n + n + 1 by omega, Nat.zero_add] at hl
    rw [if_neg (by omega), PCg.seal_Public.j0, if_neg (by rw [decide_eq_false h8]; decide), hk, Option.bind_some, hl, Int.toNat_natCast]
end Go.Proofs.YteleheamnighkaaDoor
end
section
set_option linter.unusedVariables false
set_option linter.unusedSimpArgs false
namespace Go.Proofs.YteleheamnighkaaDoor
open Go.RowKit Go.Shelf Go.DoorKit Go.DoorRound Go.Proofs.YteleheamnighkaaDoorW.PrintWords Go.Proofs.YteleheamnighkaaDoorW.PrintLast Go.Proofs.YteleheamnighkaaDoorW.PrintMore
theorem goesV_ {P : Program} {ops : Array Oper} {Q : Exit → Act → World → Prop} {oi : Oper} {N : Option Tmp} {a : Act} {w : World} {K : Act → World → Prop} (f : FuncId) {fn : Func} {c : Operand} {al : Array Operand} {ts : Array TypeId} (hf : P.funcs[f]? = some fn) (hname : (fn.name == "runtime.NumGoroutine") = false) (hb : fn.body.isSome = true) (args : Array Value)
    (hw : Region.wanted oi (yielded ops a.tmps) = true) (hN : oi.dst = N) (hop : oi.op = .call { callee := .value c, args := al, argTypes := ts }) (hc : a.eval c = .func (.func f) #[] #[]) (hargs : al.map a.eval = args)
    (h : Calls P f args w fun e w' => ∃ v, e = .returned v ∧ K (a.put N v) w') : if Region.wanted oi (yielded ops a.tmps) = true then Oper.wp P oi a w K Q else K (a.put N undef) w := by
  refine call_ f args hw hN ?_ h
  have he := enters_ hf hname hb args w
  unfold execOp
  simp [hop, resolve, hc, Deferred.ofValue, invoke, hargs, he]
theorem f62_calls (t : ByteArray) (w : World) (h : Big t.size) : Calls Tryd.prog 62 #[.string t] w fun e w' => e = .returned (.bool (!Dig.isD (tx t))) ∧ Below w.heap.size w w' := by
  have HC := Lib.hid (digest_Is.calls t (Dig.isD (tx t)) w (if_pos h))
  go_enter Tryd.func62, Tryd.ntmps62
  go_wp2_with (go_at_call 21; refine HC.out.mono ?_; rintro e w' ⟨rfl, hb⟩)
  go_ret
  exact ⟨rfl, hb⟩
def OkTo (l : List ByteArray) (k : Nat) : Prop := ∀ i, i < k → i < l.length → Dig.isD (tx (l.getD i ByteArray.empty)) = true
theorem okTo_succ {l : List ByteArray} {k : Nat} (h : OkTo l k) (hk : Dig.isD (tx (l.getD k ByteArray.empty)) = true) : OkTo l (k + 1) := by
  intro i hi hl
  by_cases e : i = k
  · rw [e]; exact hk
  · exact h i (by omega) hl
set_option maxHeartbeats 1000000 in
theorem f85_calls (A : Option Addr) (c : Nat) (l : List ByteArray) (w : World) (hr : Kd.C Kd.string w A l.length l) (hc : l.length ≤ c) (hbig : ∀ s ∈ l, Big s.size) (hlen : l.length ≤ 1000000) :
    Calls Tryd.prog 85 #[.slice A l.length c, .func (.func 62) #[] #[]] w fun e w' => ∃ z : Int, e = .returned (.int .i64 z) ∧ (0 ≤ z ↔ l.any (fun t => !Dig.isD (tx t)) = true) ∧ Below w.heap.size w w' := by
  go_enter Tryd.func85, Tryd.ntmps85
  go_wp2
  go_loopw [8] (fun i wr => ∃ k : Nat, k ≤ l.length ∧ i = .int .i64 (k : Int) ∧ OkTo l k ∧ Below w.heap.size w wr) (fun i _ => l.length - (intOf i).toNat)
  case atStart => exact ⟨0, Nat.zero_le _, rfl, fun i hi => absurd hi (by omega), Below.refl _ _⟩
  case round =>
    obtain ⟨k, hk, rfl, hok, hB⟩ := hrel
    by_cases hlt : k < l.length
    · obtain ⟨ad, rfl, hcell⟩ := Kd.at_string (Kd.C_below hr hB) (k : Int) (by omega) (by omega)
      rw [Int.toNat_natCast] at hcell
      unfold rdOf at hcell
      rw [Int.toNat_natCast] at hcell
      have hq1 : (k : Int) < (l.length : Int) := by omega
      have hbk := hbig _ (getD_mem hlt)
      have HK := Lib.hid (And.intro hr (And.intro hbig hok))
      clear hr hbig hok
      obtain ⟨b, hbb⟩ : ∃ b, b = (!Dig.isD (tx (l.getD k ByteArray.empty))) := ⟨_, rfl⟩
      have HC := Lib.hid (f62_calls (l.getD k ByteArray.empty) wr hbk)
      rw [← hbb] at HC
      have HBB := Lib.hid hbb
      generalize hgt : l.getD k ByteArray.empty = t at *
      have HT := Lib.hid hgt
      clear hgt
      clear hbb
      cases b with
      | true =>
        go_wp2_with (go_at_call 62; refine HC.out.mono ?_; rintro e w1 ⟨rfl, hb1⟩)
        go_ret
        obtain ⟨hr, hbig, hok⟩ := HK.out
        refine ⟨(k : Int), rfl, ⟨fun _ => ?_, fun _ => by omega⟩, hB.trans (hb1.mono hB.size)⟩
        rw [List.any_eq_true]
        exact ⟨t, by rw [← HT.out]; exact getD_mem hlt, HBB.out.symm⟩
      | false =>
        go_wp2_with (go_at_call 62; refine HC.out.mono ?_; rintro e w1 ⟨rfl, hb1⟩)
        go_roundw
        case rel => exact ⟨k + 1, by omega, by first | rfl | (congr 1; omega), okTo_succ HK.out.2.2 (by rw [HT.out]; simpa using HBB.out.symm), hB.trans (hb1.mono hB.size)⟩
        case measure => simp [intOf]; omega
    · obtain rfl : k = l.length := by omega
      have HK := Lib.hid (And.intro hr (And.intro hbig hok))
      clear hr hbig hok
      go_wp2
      go_ret
      refine ⟨-1, rfl, ⟨fun h => by omega, fun h => ?_⟩, hB⟩
      obtain ⟨t, ht, h2⟩ := List.any_eq_true.1 h
      obtain ⟨i, hi, rfl⟩ := List.getElem_of_mem ht
      have := HK.out.2.2 i hi hi
      rw [List.getD_eq_getElem?_getD, List.getElem?_eq_getElem hi, Option.getD_some] at this
      rw [this] at h2; cases h2
def oddB (l : List ByteArray) : Bool := l.any fun t => !Dig.isD (tx t)
theorem f61_calls (A : Option Addr) (c : Nat) (l : List ByteArray) (w : World) (hr : Kd.C Kd.string w A l.length l) (hc : l.length ≤ c) (hbig : ∀ s ∈ l, Big s.size) (hlen : l.length ≤ 1000000) :
    Calls Tryd.prog 61 #[.slice A l.length c, .func (.func 62) #[] #[]] w fun e w' => e = .returned (.bool (oddB l)) ∧ Below w.heap.size w w' := by
  have h85 := f85_calls A c l w hr hc hbig hlen
  cases hb : oddB l with
  | true =>
    have HC := Lib.hid (h85.mono (R' := fun e w' => ∃ z : Int, e = .returned (.int .i64 z) ∧ 0 ≤ z ∧ Below w.heap.size w w') (fun e w' ⟨z, h1, h2, h3⟩ => ⟨z, h1, h2.2 hb, h3⟩))
    clear hr hbig hb h85
    go_enter Tryd.func61, Tryd.ntmps61
    go_wp2_with (go_at_call 85; refine HC.out.mono ?_; rintro e w1 ⟨z, rfl, hz, hb1⟩)
    go_ret
    exact ⟨rfl, hb1⟩
  | false =>
    have HC := Lib.hid (h85.mono (R' := fun e w' => ∃ z : Int, e = .returned (.int .i64 z) ∧ z < 0 ∧ Below w.heap.size w w') (fun e w' ⟨z, h1, h2, h3⟩ => ⟨z, h1, by
      have h0 : ¬ 0 ≤ z := fun h => by have := h2.1 h; unfold oddB at hb; rw [hb] at this; cases this
      omega, h3⟩))
    clear hr hbig hb h85
    go_enter Tryd.func61, Tryd.ntmps61
    go_wp2_with (go_at_call 85; refine HC.out.mono ?_; rintro e w1 ⟨z, rfl, hz, hb1⟩)
    go_ret
    refine ⟨?_, hb1⟩
    show Ending.returned (.bool (decide (0 ≤ z))) = _
    rw [decide_eq_false (by omega)]
theorem odd_calls (A : Option Addr) (c : Nat) (l : List ByteArray) (w : World) (hr : Kd.C Kd.string w A l.length l) (hc : l.length ≤ c) (hbig : ∀ s ∈ l, Big s.size) (hlen : l.length ≤ 1000000) :
    Calls Tryd.prog 60 #[.slice A l.length c] w fun e w' => e = .returned (.bool (oddB l)) ∧ Below w.heap.size w w' := by
  have HC := Lib.hid (f61_calls A c l w hr hc hbig hlen)
  clear hr hbig
  go_enter Tryd.func60, Tryd.ntmps60
  go_wp2_with (go_at_call 61; refine HC.out.mono ?_; rintro e w1 ⟨rfl, hb1⟩)
  go_ret
  exact ⟨rfl, hb1⟩
end Go.Proofs.YteleheamnighkaaDoor
end
