/-
What RowSForm leans on, part 5: the texts of this seat, merged.
-/
import Derived.Test.YteleheamnighkaaDoorMSFormd
import Derived.Test.YteleheamnighkaaDoorRows
import Derived.Test.YteleheamnighkaaDoorTie
import Derived.Test.YteleheamnighkaaDoorCards
import Derived.WalkKit
import Derived.ProofKit
import Derived.OpenShut
import Derived.ShutString
import Derived.ChangeOld
import Derived.Below
import Derived.SizedLaws
import Derived.Lay
import Derived.LaidMore
import Derived.Lib.LaidTab
import Derived.Lib.LaidU8
import Derived.Lib.SmallJoins
import Derived.SliceStrings
import Derived.SevenTiedAt
section
set_option linter.unusedVariables false
set_option linter.unusedSimpArgs false
namespace Go.Proofs.YteleheamnighkaaDoor
open Go.RowKit Go.Shelf Go.DoorKit Go.DoorRound Go.Proofs.YteleheamnighkaaDoorW.PrintWords Go.Proofs.YteleheamnighkaaDoorW.PrintLast Go.Proofs.YteleheamnighkaaDoorW.PrintMore
theorem dIs_at {l : List ByteArray} (h : oddB l = false) {i : Nat} (hi : i < l.length) : digest_Is.f (l.getD i ByteArray.empty) = some true := by
  have h1 := oddB_false h _ (getD_mem hi)
  have h2 := oddB_size h _ (getD_mem hi)
  exact (show digest_Is.f (l.getD i ByteArray.empty) = some (Dig.isD (tx (l.getD i ByteArray.empty))) from if_pos (show _ ≤ 140737488355328 by omega)).trans (congrArg some h1)
section
variable (a0 a1 : ByteArray) (i : Int) (A1 A2 : Option Addr) (c1 c2 : Nat) (l1 l2 : List ByteArray) (w : World)
theorem kd_lit {A : Addr} {W : World} {ss : List ByteArray} (hm : ss.length ≤ 1000) (hc : ∀ i, i < ss.length → W.cell? (A.add i) = some (.string (ss.getD i ByteArray.empty))) : Kd.C Kd.string W (some A) ss.length ss := by
  refine Kd.C_of_reads (d := ByteArray.empty) (h1 := fun _ => rfl) ?_
  refine ⟨rfl, Nat.le_trans hm (by decide), fun hn => ⟨A, rfl, fun j hj => ?_⟩⟩
  rw [hc j hj]
theorem short_at (W : World) (b : Bool) (hb : BaseFacts.shortT [a0, a1] = b) : Calls Tryd.prog 26 #[.slice (some ⟨W.heap.size, 0, none⟩) 2 2] (W.alloc (.cells #[.string a0, .string a1] 9)) fun e w' => e = .returned (.bool b) ∧ Below W.heap.size W w' := by
  have K := blk_new W (.cells #[.string a0, .string a1] 9)
  have hC : Kd.C Kd.string (W.alloc (.cells #[.string a0, .string a1] 9)) (some ⟨W.heap.size, 0, none⟩) [a0, a1].length [a0, a1] := by
    refine kd_lit (show (2 : Nat) ≤ 1000 by decide) fun j hj => ?_
    have hj2 : j < 2 := hj
    match j, hj2 with
    | 0, _ => exact (blk_cell K 0).trans rfl
    | 1, _ => exact (blk_cell K 1).trans rfl
  refine (planispherelaw02_short.callsB (some ⟨W.heap.size, 0, none⟩) 2 [a0, a1] b _ hC (Nat.le_refl 2) (by rw [Pure.short2, hb])).mono ?_
  rintro e w' ⟨rfl, hb'⟩
  exact ⟨rfl, (below_alloc (Below.refl _ _) _).trans (hb'.mono (by simp))⟩
def FBox (w W : World) : Prop := W.heap[w.heap.size]? = some (.cells #[.int .i64 i, .slice A1 l1.length c1, .slice A2 l2.length c2] 35 (0, 0)) ∧ Below w.heap.size w W
theorem fbox_next {w W W' : World} (h : FBox i A1 A2 c1 c2 l1 l2 w W) (hb : Below W.heap.size W W') : FBox i A1 A2 c1 c2 l1 l2 w W' := ⟨blk_below h.1 hb, h.2.trans (hb.mono h.2.size)⟩
theorem fbox_cells {w W : World} (h : FBox i A1 A2 c1 c2 l1 l2 w W) : W.cell? ⟨w.heap.size, 0, none⟩ = some (.int .i64 i) ∧ W.cell? ⟨w.heap.size, 1, none⟩ = some (.slice A1 l1.length c1) ∧ W.cell? ⟨w.heap.size, 2, none⟩ = some (.slice A2 l2.length c2) :=
  ⟨(blk_cell h.1 0).trans rfl, (blk_cell h.1 1).trans rfl, (blk_cell h.1 2).trans rfl⟩
set_option maxRecDepth 100000 in
set_option maxHeartbeats 4000000 in
theorem form_a (hG : Glob w) (hs : BaseFacts.shortT [a0, a1] = false) :
    Calls Tryd.prog 14 #[.string a0, .string a1, .agg #[.int .i64 i, .slice A1 l1.length c1, .slice A2 l2.length c2]] w fun e w' => e = .returned (.bool true) ∧ Below w.heap.size w w' := by
  have HS := Lib.hid hs
  clear hs
  go_enter Tryd.func14, Tryd.ntmps14
  go_upto_region 2 with (first | (go_at_call 25; ((with_reducible refine (planispherelaw02_head.calls true _ rfl ?hG).mono ?_); (case hG => exact Glob.below hG (below_alloc (Below.refl _ _) _)); rintro e w1 ⟨rfl, b1⟩)))
  have F1 : FBox i A1 A2 c1 c2 l1 l2 w w1 := fbox_next i A1 A2 c1 c2 l1 l2 ⟨blk_new w _, below_alloc (Below.refl _ _) _⟩ b1
  clear b1
  go_wp2_with (first | (go_at_call 26; refine (short_at a0 a1 w1 false HS.out).mono ?_; rintro e w2 ⟨rfl, b2⟩))
  go_ret
  exact ⟨rfl, (fbox_next i A1 A2 c1 c2 l1 l2 F1 b2).2⟩
set_option maxRecDepth 100000 in
set_option maxHeartbeats 4000000 in
theorem form_b (hG : Glob w) (hr1 : Kd.C Kd.string w A1 l1.length l1) (hr2 : Kd.C Kd.string w A2 l2.length l2) (hc1 : l1.length ≤ c1) (hc2 : l2.length ≤ c2) (hs : BaseFacts.shortT [a0, a1] = true) (hf : decide (fewS l1 l2) = false) :
    Calls Tryd.prog 14 #[.string a0, .string a1, .agg #[.int .i64 i, .slice A1 l1.length c1, .slice A2 l2.length c2]] w fun e w' => e = .returned (.bool true) ∧ Below w.heap.size w w' := by
  have HS := Lib.hid hs
  have HF := Lib.hid (fun (W : World) (hW : Below w.heap.size w W) => planisphereref02_Few.calls i A1 c1 l1 A2 c2 l2 false W (Kd.C_below hr1 hW) hc1 (Kd.C_below hr2 hW) hc2 (congrArg some hf))
  clear hs hf hr1 hr2
  go_enter Tryd.func14, Tryd.ntmps14
  go_upto_region 2 with (first | (go_at_call 25; ((with_reducible refine (planispherelaw02_head.calls true _ rfl ?hG).mono ?_); (case hG => exact Glob.below hG (below_alloc (Below.refl _ _) _)); rintro e w1 ⟨rfl, b1⟩)))
  have F1 : FBox i A1 A2 c1 c2 l1 l2 w w1 := fbox_next i A1 A2 c1 c2 l1 l2 ⟨blk_new w _, below_alloc (Below.refl _ _) _⟩ b1
  clear b1
  go_wp2_with (first
    | (go_at_call 26; refine (short_at a0 a1 w1 true HS.out).mono ?_; rintro e w2 ⟨rfl, b2⟩; have F2 := fbox_next i A1 A2 c1 c2 l1 l2 F1 b2; obtain ⟨x0, x1, x2⟩ := fbox_cells i A1 A2 c1 c2 l1 l2 F2)
    | (go_at_call 27; refine (HF.out w2 F2.2).mono ?_; rintro e w3 ⟨rfl, b3⟩))
  go_ret
  exact ⟨rfl, (fbox_next i A1 A2 c1 c2 l1 l2 F2 b3).2⟩
set_option maxRecDepth 100000 in
set_option maxHeartbeats 4000000 in
theorem form_c (hG : Glob w) (hr1 : Kd.C Kd.string w A1 l1.length l1) (hr2 : Kd.C Kd.string w A2 l2.length l2) (hc1 : l1.length ≤ c1) (hc2 : l2.length ≤ c2) (hs : BaseFacts.shortT [a0, a1] = true) (hf : decide (fewS l1 l2) = true) (hvi : verIn a1 l1 l2) (hv : verR a0 a1 i l1 l2 = false) :
    Calls Tryd.prog 14 #[.string a0, .string a1, .agg #[.int .i64 i, .slice A1 l1.length c1, .slice A2 l2.length c2]] w fun e w' => e = .returned (.bool true) ∧ Below w.heap.size w w' := by
  have HS := Lib.hid hs
  have HF := Lib.hid (fun (W : World) (hW : Below w.heap.size w W) => planisphereref02_Few.calls i A1 c1 l1 A2 c2 l2 true W (Kd.C_below hr1 hW) hc1 (Kd.C_below hr2 hW) hc2 (congrArg some hf))
  have HV := Lib.hid (fun (W : World) (hW : Below w.heap.size w W) => seal_Verify.calls a0 a1 i A1 c1 l1 A2 c2 l2 false W (Kd.C_below hr1 hW) hc1 (Kd.C_below hr2 hW) hc2 ((Pure.ver_f a0 a1 i l1 l2 hvi).trans (congrArg some hv)) (Glob.below hG hW))
  clear hs hf hr1 hr2 hv hvi
  go_enter Tryd.func14, Tryd.ntmps14
  go_upto_region 2 with (first | (go_at_call 25; ((with_reducible refine (planispherelaw02_head.calls true _ rfl ?hG).mono ?_); (case hG => exact Glob.below hG (below_alloc (Below.refl _ _) _)); rintro e w1 ⟨rfl, b1⟩)))
  have F1 : FBox i A1 A2 c1 c2 l1 l2 w w1 := fbox_next i A1 A2 c1 c2 l1 l2 ⟨blk_new w _, below_alloc (Below.refl _ _) _⟩ b1
  clear b1
  go_wp2_with (first
    | (go_at_call 26; refine (short_at a0 a1 w1 true HS.out).mono ?_; rintro e w2 ⟨rfl, b2⟩; have F2 := fbox_next i A1 A2 c1 c2 l1 l2 F1 b2; obtain ⟨x0, x1, x2⟩ := fbox_cells i A1 A2 c1 c2 l1 l2 F2)
    | (go_at_call 27; refine (HF.out w2 F2.2).mono ?_; rintro e w3 ⟨rfl, b3⟩; have F3 := fbox_next i A1 A2 c1 c2 l1 l2 F2 b3; obtain ⟨y0, y1, y2⟩ := fbox_cells i A1 A2 c1 c2 l1 l2 F3)
    | (go_at_call 33; refine (HV.out w3 F3.2).mono ?_; rintro e w4 ⟨rfl, b4⟩))
  go_ret
  exact ⟨rfl, (fbox_next i A1 A2 c1 c2 l1 l2 F3 b4).2⟩
set_option maxRecDepth 100000 in
set_option maxHeartbeats 8000000 in
theorem form_d (n : Nat) (hG : Glob w) (hr1 : Kd.C Kd.string w A1 l1.length l1) (hr2 : Kd.C Kd.string w A2 l2.length l2) (hc1 : l1.length ≤ c1) (hc2 : l2.length ≤ c2) (hs : BaseFacts.shortT [a0, a1] = true) (hf : decide (fewS l1 l2) = true) (hvi : verIn a1 l1 l2) (hv : verR a0 a1 n l1 l2 = true)
    (h1 : l1.length = 18) (h2 : l2.length ≤ 8) (h6 : n < 2 ^ l2.length) (hd : Dig.isD (tx a0) = true) (o1 : oddB l1 = false) (o2 : oddB l2 = false) :
    Calls Tryd.prog 14 #[.string a0, .string a1, .agg #[.int .i64 n, .slice A1 l1.length c1, .slice A2 l2.length c2]] w fun e w' => e = .returned (.bool true) ∧ Below w.heap.size w w' := by
  have HS := Lib.hid hs
  have HF := Lib.hid (fun (W : World) (hW : Below w.heap.size w W) => planisphereref02_Few.calls n A1 c1 l1 A2 c2 l2 true W (Kd.C_below hr1 hW) hc1 (Kd.C_below hr2 hW) hc2 (congrArg some hf))
  have HV := Lib.hid (fun (W : World) (hW : Below w.heap.size w W) => seal_Verify.calls a0 a1 n A1 c1 l1 A2 c2 l2 true W (Kd.C_below hr1 hW) hc1 (Kd.C_below hr2 hW) hc2 ((Pure.ver_f a0 a1 n l1 l2 hvi).trans (congrArg some hv)) (Glob.below hG hW))
  have hz0 := Go.Proofs.YteleheamnighkaaDoor.isD_len hd
  rw [tx_len] at hz0
  have HI := Lib.hid (fun (W : World) => digest_Is.calls a0 true W ((show digest_Is.f a0 = some (Dig.isD (tx a0)) from if_pos (show a0.size ≤ 140737488355328 by omega)).trans (congrArg some hd)))
  have HO := Lib.hid (And.intro hvi (And.intro h6 (And.intro o1 o2)))
  have d1 : ((l1.length : Int) == 18) = true := beq_iff_eq.mpr (by omega)
  have d2 : ((l1.length : Int) != 18) = false := bne_eq_false_iff_eq.mpr (by omega)
  have d3 : decide (8 < (l2.length : Int)) = false := decide_eq_false (by omega)
  have d4 : decide (8 < l2.length) = false := decide_eq_false (by omega)
  have d5 : decide ((n : Int) < 0) = false := decide_eq_false (by omega)
  have hp : 2 ^ l2.length ≤ 256 := Nat.le_trans (pow_le h2) (by decide)
  have hpow : (2 : Int) ^ l2.length = ((2 ^ l2.length : Nat) : Int) := by simp
  generalize hPw : 2 ^ l2.length = Pw at *
  have HPw := Lib.hid hPw
  have d6 : wrap64 ((2 : Int) ^ min l2.length 64) = (Pw : Int) := by rw [Nat.min_eq_left (by omega), hpow]; unfold wrap64; omega
  have d7 : decide ((Pw : Int) ≤ (n : Int)) = false := decide_eq_false (by omega)
  have d8 : decide (Pw ≤ n) = false := decide_eq_false (by omega)
  have D6 := Lib.hid d6
  have H12 := Lib.hid (And.intro h1 h2)
  clear hs hf hv hvi hd hpow hPw o1 o2 h1 h2 hz0
  go_enter Tryd.func14, Tryd.ntmps14
  go_upto_region 2 with (first | (go_at_call 25; ((with_reducible refine (planispherelaw02_head.calls true _ rfl ?hG).mono ?_); (case hG => exact Glob.below hG (below_alloc (Below.refl _ _) _)); rintro e w1 ⟨rfl, b1⟩)))
  have F1 : FBox n A1 A2 c1 c2 l1 l2 w w1 := fbox_next n A1 A2 c1 c2 l1 l2 ⟨blk_new w _, below_alloc (Below.refl _ _) _⟩ b1
  clear b1
  go_wp2_with (first
    | (go_at_call 26; refine (short_at a0 a1 w1 true HS.out).mono ?_; rintro e w2 ⟨rfl, b2⟩; have F2 := fbox_next n A1 A2 c1 c2 l1 l2 F1 b2; obtain ⟨x0, x1, x2⟩ := fbox_cells n A1 A2 c1 c2 l1 l2 F2)
    | (go_at_call 27; refine (HF.out w2 F2.2).mono ?_; rintro e w3 ⟨rfl, b3⟩; have F3 := fbox_next n A1 A2 c1 c2 l1 l2 F2 b3; obtain ⟨y0, y1, y2⟩ := fbox_cells n A1 A2 c1 c2 l1 l2 F3)
    | (go_at_call 33; refine (HV.out w3 F3.2).mono ?_; rintro e w4 ⟨rfl, b4⟩; have F4 := fbox_next n A1 A2 c1 c2 l1 l2 F3 b4; clear x0 x1 x2 y0 y1 y2))
  have F5 : FBox n A1 A2 c1 c2 l1 l2 w w4.drew := fbox_next n A1 A2 c1 c2 l1 l2 F4 (below_drew1 (Below.refl _ _))
  refine start_ (n := 29) (S := fun w' => w'.cell? ⟨w.heap.size, 0, none⟩ = some (.int .i64 n) ∧ w'.cell? ⟨w.heap.size, 1, none⟩ = some (.slice A1 l1.length c1) ∧ w'.cell? ⟨w.heap.size, 2, none⟩ = some (.slice A2 l2.length c2)) (ds := []) #[false, false, false, false, false, false, false, false, false, false, false, false, false, false, false, false, false, false, false, false, false, false, false, false, false, false, false, false, false] (by kernel_rfl) rfl rfl (fbox_cells n A1 A2 c1 c2 l1 l2 F5) (fun hHeld => ?_)
  generalize w4.drew = Wd at F5 hHeld ⊢
  refine pure_ (i := 0) (N := some 32) (v := ?_) (a' := ?_) #[true, false, false, false, false, false, false, false, false, false, false, false, false, false, false, false, false, false, false, false, false, false, false, false, false, false, false, false, false] rfl rfl (any_of rfl (by kernel_rfl)) (fun _ _ _ h => h) (Or.inl ⟨by rfl, ?_⟩) ?_ ?_
  rotate_left
  · intro w'
    go_simp
    with_reducible rfl
  rotate_left
  · simp only [Act.put, List.setIfInBounds_toArray, List.set_cons_zero, List.set_cons_succ, i64_w, i32_w]
    rfl
  refine take_ (i := 1) (N := some 33) (v := ?_) (a' := ?_) #[true, true, false, false, false, false, false, false, false, false, false, false, false, false, false, false, false, false, false, false, false, false, false, false, false, false, false, false, false] rfl rfl (take_of rfl (by kernel_rfl)) (fun _ _ _ h => h) (Or.inl ⟨by rfl, ?_⟩) hHeld ?_ ?_
  rotate_left
  · rintro w' ⟨s0, s1, s2⟩
    go_simp
    with_reducible rfl
  rotate_left
  · simp only [Act.put, List.setIfInBounds_toArray, List.set_cons_zero, List.set_cons_succ, i64_w, i32_w]
    rfl
  refine pure_ (i := 2) (N := some 34) (v := ?_) (a' := ?_) #[true, true, true, false, false, false, false, false, false, false, false, false, false, false, false, false, false, false, false, false, false, false, false, false, false, false, false, false, false] rfl rfl (any_of rfl (by kernel_rfl)) (fun _ _ _ h => h) (Or.inl ⟨by rfl, ?_⟩) ?_ ?_
  rotate_left
  · intro w'
    go_simp
    with_reducible rfl
  rotate_left
  · simp only [Act.put, List.setIfInBounds_toArray, List.set_cons_zero, List.set_cons_succ, i64_w, i32_w]
    rfl
  refine pure_ (i := 3) (N := some 35) (v := ?_) (a' := ?_) #[true, true, true, true, false, false, false, false, false, false, false, false, false, false, false, false, false, false, false, false, false, false, false, false, false, false, false, false, false] rfl rfl (any_of rfl (by kernel_rfl)) (fun _ _ _ h => h) (Or.inl ⟨by rfl, ?_⟩) ?_ ?_
  rotate_left
  · intro w'
    go_simp
    with_reducible rfl
  rotate_left
  · simp only [Act.put, List.setIfInBounds_toArray, List.set_cons_zero, List.set_cons_succ, i64_w, i32_w]
    rfl
  refine pure_ (i := 4) (N := some 36) (v := ?_) (a' := ?_) #[true, true, true, true, true, false, false, false, false, false, false, false, false, false, false, false, false, false, false, false, false, false, false, false, false, false, false, false, false] rfl rfl (any_of rfl (by kernel_rfl)) (fun _ _ _ h => h) (Or.inl ⟨by rfl, ?_⟩) ?_ ?_
  rotate_left
  · intro w'
    go_simp
    with_reducible rfl
  rotate_left
  · simp only [Act.put, List.setIfInBounds_toArray, List.set_cons_zero, List.set_cons_succ, i64_w, i32_w]
    rfl
  refine pure_ (i := 5) (N := some 37) (v := ?_) (a' := ?_) #[true, true, true, true, true, true, false, false, false, false, false, false, false, false, false, false, false, false, false, false, false, false, false, false, false, false, false, false, false] rfl rfl (any_of rfl (by kernel_rfl)) (fun _ _ _ h => h) (Or.inl ⟨by rfl, ?_⟩) ?_ ?_
  rotate_left
  · intro w'
    go_simp
    with_reducible rfl
  rotate_left
  · simp only [Act.put, List.setIfInBounds_toArray, List.set_cons_zero, List.set_cons_succ, i64_w, i32_w]
    rfl
  refine take_ (i := 6) (N := some 38) (v := ?_) (a' := ?_) #[true, true, true, true, true, true, true, false, false, false, false, false, false, false, false, false, false, false, false, false, false, false, false, false, false, false, false, false, false] rfl rfl (take_of rfl (by kernel_rfl)) (fun _ _ _ h => h) (Or.inl ⟨by rfl, ?_⟩) hHeld ?_ ?_
  rotate_left
  · rintro w' ⟨s0, s1, s2⟩
    go_simp
    with_reducible rfl
  rotate_left
  · simp only [Act.put, List.setIfInBounds_toArray, List.set_cons_zero, List.set_cons_succ, i64_w, i32_w]
    rfl
  refine pure_ (i := 7) (N := some 39) (v := ?_) (a' := ?_) #[true, true, true, true, true, true, true, true, false, false, false, false, false, false, false, false, false, false, false, false, false, false, false, false, false, false, false, false, false] rfl rfl (any_of rfl (by kernel_rfl)) (fun _ _ _ h => h) (Or.inl ⟨by rfl, ?_⟩) ?_ ?_
  rotate_left
  · intro w'
    go_simp
    with_reducible rfl
  rotate_left
  · simp only [Act.put, List.setIfInBounds_toArray, List.set_cons_zero, List.set_cons_succ, i64_w, i32_w]
    rfl
  refine pure_ (i := 8) (N := some 40) (v := ?_) (a' := ?_) #[true, true, true, true, true, true, true, true, true, false, false, false, false, false, false, false, false, false, false, false, false, false, false, false, false, false, false, false, false] rfl rfl (any_of rfl (by kernel_rfl)) (fun _ _ _ h => h) (Or.inl ⟨by rfl, ?_⟩) ?_ ?_
  rotate_left
  · intro w'
    go_simp
    with_reducible rfl
  rotate_left
  · simp only [Act.put, List.setIfInBounds_toArray, List.set_cons_zero, List.set_cons_succ, i64_w, i32_w]
    rfl
  refine pure_ (i := 9) (N := some 41) (v := ?_) (a' := ?_) #[true, true, true, true, true, true, true, true, true, true, false, false, false, false, false, false, false, false, false, false, false, false, false, false, false, false, false, false, false] rfl rfl (any_of rfl (by kernel_rfl)) (fun _ _ _ h => h) (Or.inl ⟨by rfl, ?_⟩) ?_ ?_
  rotate_left
  · intro w'
    go_simp
    with_reducible rfl
  rotate_left
  · simp only [Act.put, List.setIfInBounds_toArray, List.set_cons_zero, List.set_cons_succ, i64_w, i32_w]
    rfl
  refine pure_ (i := 10) (N := some 42) (v := ?_) (a' := ?_) #[true, true, true, true, true, true, true, true, true, true, true, false, false, false, false, false, false, false, false, false, false, false, false, false, false, false, false, false, false] rfl rfl (any_of rfl (by kernel_rfl)) (fun _ _ _ h => h) (Or.inl ⟨by rfl, ?_⟩) ?_ ?_
  rotate_left
  · intro w'
    go_simp
    with_reducible rfl
  rotate_left
  · simp only [Act.put, List.setIfInBounds_toArray, List.set_cons_zero, List.set_cons_succ, i64_w, i32_w]
    rfl
  refine pure_ (i := 11) (N := some 43) (v := ?_) (a' := ?_) #[true, true, true, true, true, true, true, true, true, true, true, true, false, false, false, false, false, false, false, false, false, false, false, false, false, false, false, false, false] rfl rfl (any_of rfl (by kernel_rfl)) (fun _ _ _ h => h) (Or.inl ⟨by rfl, ?_⟩) ?_ ?_
  rotate_left
  · intro w'
    go_simp
    with_reducible rfl
  rotate_left
  · simp only [Act.put, List.setIfInBounds_toArray, List.set_cons_zero, List.set_cons_succ, i64_w, i32_w]
    rfl
  refine take_ (i := 12) (N := some 44) (v := ?_) (a' := ?_) #[true, true, true, true, true, true, true, true, true, true, true, true, true, false, false, false, false, false, false, false, false, false, false, false, false, false, false, false, false] rfl rfl (take_of rfl (by kernel_rfl)) (fun _ _ _ h => h) (Or.inl ⟨by rfl, ?_⟩) hHeld ?_ ?_
  rotate_left
  · rintro w' ⟨s0, s1, s2⟩
    go_simp
    with_reducible rfl
  rotate_left
  · simp only [Act.put, List.setIfInBounds_toArray, List.set_cons_zero, List.set_cons_succ, i64_w, i32_w]
    rfl
  refine pure_ (i := 13) (N := some 45) (v := ?_) (a' := ?_) #[true, true, true, true, true, true, true, true, true, true, true, true, true, true, false, false, false, false, false, false, false, false, false, false, false, false, false, false, false] rfl rfl (any_of rfl (by kernel_rfl)) (fun _ _ _ h => h) (Or.inl ⟨by rfl, ?_⟩) ?_ ?_
  rotate_left
  · intro w'
    go_simp
    with_reducible rfl
  rotate_left
  · simp only [Act.put, List.setIfInBounds_toArray, List.set_cons_zero, List.set_cons_succ, i64_w, i32_w]
    rfl
  refine pure_ (i := 14) (N := some 46) (v := ?_) (a' := ?_) #[true, true, true, true, true, true, true, true, true, true, true, true, true, true, true, false, false, false, false, false, false, false, false, false, false, false, false, false, false] rfl rfl (any_of rfl (by kernel_rfl)) (fun _ _ _ h => h) (Or.inl ⟨by rfl, ?_⟩) ?_ ?_
  rotate_left
  · intro w'
    go_simp
    with_reducible rfl
  rotate_left
  · simp only [Act.put, List.setIfInBounds_toArray, List.set_cons_zero, List.set_cons_succ, i64_w, i32_w]
    rfl
  refine pure_ (i := 15) (N := some 47) (v := ?_) (a' := ?_) #[true, true, true, true, true, true, true, true, true, true, true, true, true, true, true, true, false, false, false, false, false, false, false, false, false, false, false, false, false] rfl rfl (any_of rfl (by kernel_rfl)) (fun _ _ _ h => h) (Or.inl ⟨by rfl, ?_⟩) ?_ ?_
  rotate_left
  · intro w'
    go_simp
    with_reducible rfl
  rotate_left
  · simp only [Act.put, List.setIfInBounds_toArray, List.set_cons_zero, List.set_cons_succ, i64_w, i32_w]
    rfl
  refine pure_ (i := 16) (N := some 48) (v := ?_) (a' := ?_) #[true, true, true, true, true, true, true, true, true, true, true, true, true, true, true, true, true, false, false, false, false, false, false, false, false, false, false, false, false] rfl rfl (any_of rfl (by kernel_rfl)) (fun _ _ _ h => h) (Or.inl ⟨by rfl, ?_⟩) ?_ ?_
  rotate_left
  · intro w'
    go_simp
    with_reducible rfl
  rotate_left
  · simp only [Act.put, List.setIfInBounds_toArray, List.set_cons_zero, List.set_cons_succ, i64_w, i32_w]
    rfl
  refine take_ (i := 17) (N := some 49) (v := ?_) (a' := ?_) #[true, true, true, true, true, true, true, true, true, true, true, true, true, true, true, true, true, true, false, false, false, false, false, false, false, false, false, false, false] rfl rfl (take_of rfl (by kernel_rfl)) (fun _ _ _ h => h) (Or.inl ⟨by rfl, ?_⟩) hHeld ?_ ?_
  rotate_left
  · rintro w' ⟨s0, s1, s2⟩
    go_simp
    with_reducible rfl
  rotate_left
  · simp only [Act.put, List.setIfInBounds_toArray, List.set_cons_zero, List.set_cons_succ, i64_w, i32_w]
    rfl
  refine pure_ (i := 18) (N := some 50) (v := ?_) (a' := ?_) #[true, true, true, true, true, true, true, true, true, true, true, true, true, true, true, true, true, true, true, false, false, false, false, false, false, false, false, false, false] rfl rfl (any_of rfl (by kernel_rfl)) (fun _ _ _ h => h) (Or.inl ⟨by rfl, ?_⟩) ?_ ?_
  rotate_left
  · intro w'
    go_simp
    with_reducible rfl
  rotate_left
  · simp only [Act.put, List.setIfInBounds_toArray, List.set_cons_zero, List.set_cons_succ, i64_w, i32_w]
    rfl
  refine take_ (i := 19) (N := some 51) (v := ?_) (a' := ?_) #[true, true, true, true, true, true, true, true, true, true, true, true, true, true, true, true, true, true, true, true, false, false, false, false, false, false, false, false, false] rfl rfl (take_of rfl (by kernel_rfl)) (fun _ _ _ h => h) (Or.inl ⟨by rfl, ?_⟩) hHeld ?_ ?_
  rotate_left
  · rintro w' ⟨s0, s1, s2⟩
    go_simp
    with_reducible rfl
  rotate_left
  · simp only [Act.put, List.setIfInBounds_toArray, List.set_cons_zero, List.set_cons_succ, i64_w, i32_w]
    rfl
  refine pure_ (i := 20) (N := some 52) (v := ?_) (a' := ?_) #[true, true, true, true, true, true, true, true, true, true, true, true, true, true, true, true, true, true, true, true, true, false, false, false, false, false, false, false, false] rfl rfl (any_of rfl (by kernel_rfl)) (fun _ _ _ h => h) (Or.inl ⟨by rfl, ?_⟩) ?_ ?_
  rotate_left
  · intro w'
    go_simp
    with_reducible rfl
  rotate_left
  · simp only [Act.put, List.setIfInBounds_toArray, List.set_cons_zero, List.set_cons_succ, i64_w, i32_w]
    rfl
  refine pure_ (i := 21) (N := some 53) (v := ?_) (a' := ?_) #[true, true, true, true, true, true, true, true, true, true, true, true, true, true, true, true, true, true, true, true, true, true, false, false, false, false, false, false, false] rfl rfl (any_of rfl (by kernel_rfl)) (fun _ _ _ h => h) (Or.inl ⟨by rfl, ?_⟩) ?_ ?_
  rotate_left
  · intro w'
    go_simp
    with_reducible rfl
  rotate_left
  · simp only [Act.put, List.setIfInBounds_toArray, List.set_cons_zero, List.set_cons_succ, i64_w, i32_w]
    rfl
  refine pure_ (i := 22) (N := some 54) (v := ?_) (a' := ?_) #[true, true, true, true, true, true, true, true, true, true, true, true, true, true, true, true, true, true, true, true, true, true, true, false, false, false, false, false, false] rfl rfl (any_of rfl (by kernel_rfl)) (fun _ _ _ h => h) (Or.inl ⟨by rfl, ?_⟩) ?_ ?_
  rotate_left
  · intro w'
    go_simp
    with_reducible rfl
  rotate_left
  · simp only [Act.put, List.setIfInBounds_toArray, List.set_cons_zero, List.set_cons_succ, i64_w, i32_w]
    rfl
  refine pure_ (i := 23) (N := some 55) (v := ?_) (a' := ?_) #[true, true, true, true, true, true, true, true, true, true, true, true, true, true, true, true, true, true, true, true, true, true, true, true, false, false, false, false, false] rfl rfl (any_of rfl (by kernel_rfl)) (fun _ _ _ h => h) (Or.inl ⟨by rfl, ?_⟩) ?_ ?_
  rotate_left
  · intro w'
    go_simp
    with_reducible rfl
  rotate_left
  · simp only [Act.put, List.setIfInBounds_toArray, List.set_cons_zero, List.set_cons_succ, i64_w, i32_w]
    rfl
  refine pure_ (i := 24) (N := some 56) (v := ?_) (a' := ?_) #[true, true, true, true, true, true, true, true, true, true, true, true, true, true, true, true, true, true, true, true, true, true, true, true, true, false, false, false, false] rfl rfl (any_of rfl (by kernel_rfl)) (fun _ _ _ h => h) (Or.inl ⟨by rfl, ?_⟩) ?_ ?_
  rotate_left
  · intro w'
    go_simp
    with_reducible rfl
  rotate_left
  · simp only [Act.put, List.setIfInBounds_toArray, List.set_cons_zero, List.set_cons_succ, i64_w, i32_w]
    rfl
  refine pure_ (i := 25) (N := some 57) (v := ?_) (a' := ?_) #[true, true, true, true, true, true, true, true, true, true, true, true, true, true, true, true, true, true, true, true, true, true, true, true, true, true, false, false, false] rfl rfl (any_of rfl (by kernel_rfl)) (fun _ _ _ h => h) (Or.inl ⟨by rfl, ?_⟩) ?_ ?_
  rotate_left
  · intro w'
    go_simp
    with_reducible rfl
  rotate_left
  · simp only [Act.put, List.setIfInBounds_toArray, List.set_cons_zero, List.set_cons_succ, i64_w, i32_w]
    rfl
  refine one_ (i := 26) (N := some 58) #[true, true, true, true, true, true, true, true, true, true, true, true, true, true, true, true, true, true, true, true, true, true, true, true, true, true, true, false, false] rfl rfl (one_of rfl (by kernel_rfl)) (by decide) (fun K hK => ?_)
  refine goes_ Tryd.func21 (by kernel_rfl) rfl #[.string a0] (by rfl) rfl rfl (by (try simp only [List.map_toArray, List.map_cons, List.map_nil]); first | done | rfl) ?_
  refine ((HI.out Wd).mono ?_)
  rintro e W5 ⟨rfl, hb⟩
  refine ⟨_, rfl, ?_⟩
  have F6 := fbox_next n A1 A2 c1 c2 l1 l2 F5 hb
  refine hK.out _ _ (fbox_cells n A1 A2 c1 c2 l1 l2 F6) (fun hHeld1 => ?_)
  clear hHeld hb hHeld1
  clear hK K
  refine norm_ (a' := ?_) ?_ ?_
  rotate_left
  · show Act.put _ (some 58) _ = _
    simp only [Act.put, List.setIfInBounds_toArray, List.set_cons_zero, List.set_cons_succ, i64_w, i32_w]
    rfl
  refine pure_ (i := 27) (N := some 59) (v := ?_) (a' := ?_) #[true, true, true, true, true, true, true, true, true, true, true, true, true, true, true, true, true, true, true, true, true, true, true, true, true, true, true, true, false] rfl rfl (any_of rfl (by kernel_rfl)) (fun _ _ _ h => h) (Or.inl ⟨by rfl, ?_⟩) ?_ ?_
  rotate_left
  · intro w'
    go_simp
    with_reducible rfl
  rotate_left
  · simp only [Act.put, List.setIfInBounds_toArray, List.set_cons_zero, List.set_cons_succ, i64_w, i32_w]
    rfl
  refine pure_ (i := 28) (N := some 60) (v := ?_) (a' := ?_) #[true, true, true, true, true, true, true, true, true, true, true, true, true, true, true, true, true, true, true, true, true, true, true, true, true, true, true, true, true] rfl rfl (any_of rfl (by kernel_rfl)) (fun _ _ _ h => h) (Or.inl ⟨by rfl, ?_⟩) ?_ ?_
  rotate_left
  · intro w'
    go_simp
    with_reducible rfl
  rotate_left
  · simp only [Act.put, List.setIfInBounds_toArray, List.set_cons_zero, List.set_cons_succ, i64_w, i32_w]
    rfl
  refine done_ (done_of rfl (by kernel_rfl)) ?_
  clear d1 d2 d3 d4 d5 d7 d8 d6 F1 F2 F3 F4 F5 b2 b3 b4
  go_wp2
  go_loopw [8] (fun c wr => ∃ k : Nat, k ≤ l1.length ∧ c = .int .i64 (k : Int) ∧ FBox n A1 A2 c1 c2 l1 l2 w wr) (fun c _ => l1.length - (intOf c).toNat)
  case atStart => exact ⟨0, Nat.zero_le _, rfl, F6⟩
  case round =>
    obtain ⟨k, hk, rfl, F7⟩ := hrel
    obtain ⟨x0, x1, x2⟩ := fbox_cells n A1 A2 c1 c2 l1 l2 F7
    by_cases hlt : k < l1.length
    · obtain ⟨ad, hA, hcell⟩ := Kd.at_string (Kd.C_below hr1 F7.2) (k : Int) (by omega) (by omega)
      subst hA
      rw [Int.toNat_natCast] at hcell
      unfold rdOf at hcell
      rw [Int.toNat_natCast] at hcell
      have hq1 : (k : Int) < (l1.length : Int) := by omega
      have hk18 : k ≤ 18 := by have := H12.out.1; omega
      have hI := dIs_at HO.out.2.2.1 hlt
      generalize l1.getD k ByteArray.empty = t at hcell hI
      have HI2 := Lib.hid (fun W => digest_Is.calls t true W hI)
      clear hI
      go_wp2_with (go_at_call 21; refine (HI2.out wr).mono ?_; rintro e w8 ⟨rfl, b8⟩; have F8 := fbox_next n _ A2 c1 c2 l1 l2 F7 b8)
      clear HI2
      go_roundw
      case rel => exact ⟨k + 1, by omega, by first | rfl | (congr 1; omega), F8⟩
      case measure => simp [intOf]; omega
    · obtain rfl : k = l1.length := by omega
      clear F6
      go_wp2
      clear x0 x1 x2
      go_loopw [9] (fun c wr => ∃ k : Nat, k ≤ l2.length ∧ c = .int .i64 (k : Int) ∧ FBox n A1 A2 c1 c2 l1 l2 w wr) (fun c _ => l2.length - (intOf c).toNat)
      case atStart => exact ⟨0, Nat.zero_le _, rfl, F7⟩
      case round =>
        obtain ⟨k, hk2, rfl, F9⟩ := hrel
        obtain ⟨x0, x1, x2⟩ := fbox_cells n A1 A2 c1 c2 l1 l2 F9
        by_cases hlt2 : k < l2.length
        · obtain ⟨ad, hA, hcell⟩ := Kd.at_string (Kd.C_below hr2 F9.2) (k : Int) (by omega) (by omega)
          subst hA
          rw [Int.toNat_natCast] at hcell
          unfold rdOf at hcell
          rw [Int.toNat_natCast] at hcell
          have hq1 : (k : Int) < (l2.length : Int) := by omega
          have hk18 : k ≤ 18 := by have := H12.out.2; omega
          have hI := dIs_at HO.out.2.2.2 hlt2
          generalize l2.getD k ByteArray.empty = t at hcell hI
          have HI2 := Lib.hid (fun W => digest_Is.calls t true W hI)
          clear hI F7 hk hlt
          go_wp2_with (go_at_call 21; refine (HI2.out wr).mono ?_; rintro e w8 ⟨rfl, b8⟩; have F8 := fbox_next n A1 _ c1 c2 l1 l2 F9 b8)
          clear HI2
          go_roundw
          case rel => exact ⟨k + 1, by omega, by first | rfl | (congr 1; omega), F8⟩
          case measure => simp [intOf]; omega
        · obtain rfl : k = l2.length := by omega
          clear F7 hk hlt hk2 hlt2
          have q0 : (17 : Int) ≤ (c1 : Int) := by have := H12.out.1; omega
          go_upto_region 17 with (fail)
          clear x0 x1 x2
          have K10 := blk_new wr (.cells #[.int .i64 n, .slice A1 l1.length c1, .slice A2 l2.length c2] 35)
          have BB := below_alloc (Below.refl wr.heap.size wr) (.cells #[.int .i64 n, .slice A1 l1.length c1, .slice A2 l2.length c2] 35)
          have hgw : w.heap.size < wr.heap.size := blk_lt F9.1
          have hl10 := blk_lt K10
          generalize wr.alloc (.cells #[.int .i64 n, .slice A1 l1.length c1, .slice A2 l2.length c2] 35) = W17 at *
          have F10 := fbox_next n A1 A2 c1 c2 l1 l2 F9 BB
          obtain ⟨x0, x1, x2⟩ := fbox_cells n A1 A2 c1 c2 l1 l2 F10
          have y1 : W17.cell? ⟨wr.heap.size, 1, none⟩ = some (.slice A1 l1.length c1) := (blk_cell K10 1).trans rfl
          have f1 := blk_frozen K10 1
          go_upto_region 18 with (fail)
          clear x0 x1 x2 y1 f1
          replace K10 := blk_put (cs' := #[.int .i64 n, .slice A1 17 c1, .slice A2 l2.length c2]) K10 1 (.slice A1 17 c1) rfl
          replace BB := BB.setCell (p := ⟨wr.heap.size, 1, none⟩) (Nat.le_refl _) (.slice A1 17 c1)
          have hl18 := blk_lt K10
          generalize W17.setCell ⟨wr.heap.size, 1, none⟩ (.slice A1 17 c1) = W18 at *
          replace F10 := fbox_next n A1 A2 c1 c2 l1 l2 F9 BB
          obtain ⟨x0, x1, x2⟩ := fbox_cells n A1 A2 c1 c2 l1 l2 F10
          go_upto_region 19 with (fail)
          clear x0 x1 x2
          have K11 := blk_new W18 (.cells #[.int .i64 n, .slice A1 l1.length c1, .slice A2 l2.length c2] 35)
          replace K10 := blk_alloc K10 (.cells #[.int .i64 n, .slice A1 l1.length c1, .slice A2 l2.length c2] 35)
          replace BB := below_alloc BB (.cells #[.int .i64 n, .slice A1 l1.length c1, .slice A2 l2.length c2] 35)
          have hl11 := blk_lt K11
          generalize W18.alloc (.cells #[.int .i64 n, .slice A1 l1.length c1, .slice A2 l2.length c2] 35) = W19 at *
          generalize W18.heap.size = g11 at *
          have FB := fbox_next n A1 A2 c1 c2 l1 l2 F9 BB
          obtain ⟨z1, hz1⟩ : ∃ z : Int, wrap64 ((n : Int) + (Pw : Int)) = z := ⟨_, rfl⟩
          obtain ⟨z2, hz2⟩ : ∃ z : Int, wrap64 ((n : Int) - (Pw : Int)) = z := ⟨_, rfl⟩
          have Z1 := Lib.hid (show z1 = ((n + Pw : Nat) : Int) by rw [← hz1]; unfold wrap64; omega)
          have Z2 := Lib.hid (show z2 = (n : Int) - (Pw : Int) by rw [← hz2]; unfold wrap64; omega)
          have hz1' : IntKind.i64.wrap ((n : Int) + (Pw : Int)) = z1 := (i64_w _).trans hz1
          have hz2' : IntKind.i64.wrap ((n : Int) - (Pw : Int)) = z2 := (i64_w _).trans hz2
          have D6a := D6.out
          refine start_ (n := 9) (S := fun w' => w'.cell? ⟨w.heap.size, 0, none⟩ = some (.int .i64 n) ∧ w'.cell? ⟨w.heap.size, 2, none⟩ = some (.slice A2 l2.length c2)) (ds := [8]) #[false, false, false, false, false, false, false, false, false] (by kernel_rfl) rfl rfl ⟨(blk_cell (blk_drew FB.1) 0).trans rfl, (blk_cell (blk_drew FB.1) 2).trans rfl⟩ (fun hHeld => ?_)
          replace K10 := blk_drew K10
          replace K11 := blk_drew K11
          replace BB := below_drew1 BB
          have hl11' : g11 < W19.drew.heap.size := hl11
          generalize W19.drew = W20 at *
          refine pure_ (i := 0) (N := some 95) (v := ?_) (a' := ?_) #[true, false, false, false, false, false, false, false, false] rfl rfl (any_of rfl (by kernel_rfl)) (fun _ _ _ h => h) (Or.inl ⟨by rfl, ?_⟩) ?_ ?_
          rotate_left
          · intro w'
            go_simp
            with_reducible rfl
          rotate_left
          · simp only [Act.put, List.setIfInBounds_toArray, List.set_cons_zero, List.set_cons_succ, i64_w, i32_w]
            rfl
          refine take_ (i := 1) (N := some 96) (v := ?_) (a' := ?_) #[true, true, false, false, false, false, false, false, false] rfl rfl (take_of rfl (by kernel_rfl)) (fun _ _ _ h => h) (Or.inl ⟨by rfl, ?_⟩) hHeld ?_ ?_
          rotate_left
          · rintro w' ⟨s0, s1⟩
            go_simp
            with_reducible rfl
          rotate_left
          · simp only [Act.put, List.setIfInBounds_toArray, List.set_cons_zero, List.set_cons_succ, i64_w, i32_w]
            rfl
          refine pure_ (i := 2) (N := some 97) (v := ?_) (a' := ?_) #[true, true, true, false, false, false, false, false, false] rfl rfl (any_of rfl (by kernel_rfl)) (fun _ _ _ h => h) (Or.inl ⟨by rfl, ?_⟩) ?_ ?_
          rotate_left
          · intro w'
            go_simp
            with_reducible rfl
          rotate_left
          · simp only [Act.put, List.setIfInBounds_toArray, List.set_cons_zero, List.set_cons_succ, i64_w, i32_w]
            rfl
          refine take_ (i := 3) (N := some 98) (v := ?_) (a' := ?_) #[true, true, true, true, false, false, false, false, false] rfl rfl (take_of rfl (by kernel_rfl)) (fun _ _ _ h => h) (Or.inl ⟨by rfl, ?_⟩) hHeld ?_ ?_
          rotate_left
          · rintro w' ⟨s0, s1⟩
            go_simp
            with_reducible rfl
          rotate_left
          · simp only [Act.put, List.setIfInBounds_toArray, List.set_cons_zero, List.set_cons_succ, i64_w, i32_w]
            rfl
          refine pure_ (i := 4) (N := some 99) (v := ?_) (a' := ?_) #[true, true, true, true, true, false, false, false, false] rfl rfl (any_of rfl (by kernel_rfl)) (fun _ _ _ h => h) (Or.inl ⟨by rfl, ?_⟩) ?_ ?_
          rotate_left
          · intro w'
            go_simp
            with_reducible rfl
          rotate_left
          · simp only [Act.put, List.setIfInBounds_toArray, List.set_cons_zero, List.set_cons_succ, i64_w, i32_w]
            rfl
          refine pure_ (i := 5) (N := some 100) (v := ?_) (a' := ?_) #[true, true, true, true, true, true, false, false, false] rfl rfl (any_of rfl (by kernel_rfl)) (fun _ _ _ h => h) (Or.inl ⟨by rfl, ?_⟩) ?_ ?_
          rotate_left
          · intro w'
            go_simp
            with_reducible rfl
          rotate_left
          · simp only [Act.put, List.setIfInBounds_toArray, List.set_cons_zero, List.set_cons_succ, i64_w, i32_w]
            rfl
          refine pure_ (i := 6) (N := some 101) (v := ?_) (a' := ?_) #[true, true, true, true, true, true, true, false, false] rfl rfl (any_of rfl (by kernel_rfl)) (fun _ _ _ h => h) (Or.inl ⟨by rfl, ?_⟩) ?_ ?_
          rotate_left
          · intro w'
            go_simp
            with_reducible rfl
          rotate_left
          · simp only [Act.put, List.setIfInBounds_toArray, List.set_cons_zero, List.set_cons_succ, i64_w, i32_w]
            rfl
          refine pure_ (i := 7) (N := some 102) (v := ?_) (a' := ?_) #[true, true, true, true, true, true, true, true, false] rfl rfl (any_of rfl (by kernel_rfl)) (fun _ _ _ h => h) (Or.inl ⟨by rfl, ?_⟩) ?_ ?_
          rotate_left
          · intro w'
            go_simp
            with_reducible rfl
          rotate_left
          · simp only [Act.put, List.setIfInBounds_toArray, List.set_cons_zero, List.set_cons_succ, i64_w, i32_w]
            rfl
          have y0 : W20.cell? ⟨g11, 0, none⟩ = some (.int .i64 n) := (blk_cell K11 0).trans rfl
          have f0 := blk_frozen K11 0
          refine last_ (i := 8) (N := none) #[true, true, true, true, true, true, true, true, true] rfl rfl (one_of rfl (by kernel_rfl)) (by decide) (fun K hK => ?_)
          refine skip_ (w1 := ?_) (by rfl) rfl ?_ ?_
          rotate_left
          · go_simp
            rfl
          refine hK.out _ _ ?_
          clear hK K
          refine done_ (done_of rfl (by kernel_rfl)) ?_
          clear y0 f0 hHeld D6a
          replace K10 := blk_far K10 (p := ⟨g11, 0, none⟩) (by show wr.heap.size ≠ g11; omega) (.int .i64 z1)
          replace K11 := blk_put (cs' := #[.int .i64 z1, .slice A1 l1.length c1, .slice A2 l2.length c2]) K11 0 (.int .i64 z1) rfl
          replace BB := BB.setCell (p := ⟨g11, 0, none⟩) (by show wr.heap.size ≤ g11; omega) (.int .i64 z1)
          have hl21 := blk_lt K11
          generalize W20.setCell ⟨g11, 0, none⟩ (.int .i64 z1) = W21 at *
          clear FB
          have FB := fbox_next n A1 A2 c1 c2 l1 l2 F9 BB
          obtain ⟨x0, x1, x2⟩ := fbox_cells n A1 A2 c1 c2 l1 l2 FB
          have D6h := Lib.hid (And.intro hz1 (And.intro hz2 (And.intro hz1' hz2')))
          clear hz1 hz2 hz1' hz2'
          go_upto_region 21 with (fail)
          clear x0 x1 x2
          have K12 := blk_new W21 (.cells #[.int .i64 n, .slice A1 l1.length c1, .slice A2 l2.length c2] 35)
          replace K10 := blk_alloc K10 (.cells #[.int .i64 n, .slice A1 l1.length c1, .slice A2 l2.length c2] 35)
          replace K11 := blk_alloc K11 (.cells #[.int .i64 n, .slice A1 l1.length c1, .slice A2 l2.length c2] 35)
          replace BB := below_alloc BB (.cells #[.int .i64 n, .slice A1 l1.length c1, .slice A2 l2.length c2] 35)
          have hl12 := blk_lt K12
          generalize W21.alloc (.cells #[.int .i64 n, .slice A1 l1.length c1, .slice A2 l2.length c2] 35) = W22 at *
          generalize W21.heap.size = g12 at *
          clear FB
          have FB := fbox_next n A1 A2 c1 c2 l1 l2 F9 BB
          have hg12 : wr.heap.size < g12 ∧ g11 < g12 := by constructor <;> omega
          obtain ⟨hz1, hz2, hz1', hz2'⟩ := D6h.out
          have D6a := D6.out
          refine start_ (n := 9) (S := fun w' => w'.cell? ⟨w.heap.size, 0, none⟩ = some (.int .i64 n) ∧ w'.cell? ⟨w.heap.size, 2, none⟩ = some (.slice A2 l2.length c2)) (ds := [8]) #[false, false, false, false, false, false, false, false, false] (by kernel_rfl) rfl rfl ⟨(blk_cell (blk_drew FB.1) 0).trans rfl, (blk_cell (blk_drew FB.1) 2).trans rfl⟩ (fun hHeld => ?_)
          replace K10 := blk_drew K10
          replace K11 := blk_drew K11
          replace K12 := blk_drew K12
          replace BB := below_drew1 BB
          generalize W22.drew = W23 at *
          have y0 : W23.cell? ⟨g12, 0, none⟩ = some (.int .i64 n) := (blk_cell K12 0).trans rfl
          have f0 := blk_frozen K12 0
          refine pure_ (i := 0) (N := some 104) (v := ?_) (a' := ?_) #[true, false, false, false, false, false, false, false, false] rfl rfl (any_of rfl (by kernel_rfl)) (fun _ _ _ h => h) (Or.inl ⟨by rfl, ?_⟩) ?_ ?_
          rotate_left
          · intro w'
            go_simp
            with_reducible rfl
          rotate_left
          · simp only [Act.put, List.setIfInBounds_toArray, List.set_cons_zero, List.set_cons_succ, i64_w, i32_w]
            rfl
          refine take_ (i := 1) (N := some 105) (v := ?_) (a' := ?_) #[true, true, false, false, false, false, false, false, false] rfl rfl (take_of rfl (by kernel_rfl)) (fun _ _ _ h => h) (Or.inl ⟨by rfl, ?_⟩) hHeld ?_ ?_
          rotate_left
          · rintro w' ⟨s0, s1⟩
            go_simp
            with_reducible rfl
          rotate_left
          · simp only [Act.put, List.setIfInBounds_toArray, List.set_cons_zero, List.set_cons_succ, i64_w, i32_w]
            rfl
          refine pure_ (i := 2) (N := some 106) (v := ?_) (a' := ?_) #[true, true, true, false, false, false, false, false, false] rfl rfl (any_of rfl (by kernel_rfl)) (fun _ _ _ h => h) (Or.inl ⟨by rfl, ?_⟩) ?_ ?_
          rotate_left
          · intro w'
            go_simp
            with_reducible rfl
          rotate_left
          · simp only [Act.put, List.setIfInBounds_toArray, List.set_cons_zero, List.set_cons_succ, i64_w, i32_w]
            rfl
          refine take_ (i := 3) (N := some 107) (v := ?_) (a' := ?_) #[true, true, true, true, false, false, false, false, false] rfl rfl (take_of rfl (by kernel_rfl)) (fun _ _ _ h => h) (Or.inl ⟨by rfl, ?_⟩) hHeld ?_ ?_
          rotate_left
          · rintro w' ⟨s0, s1⟩
            go_simp
            with_reducible rfl
          rotate_left
          · simp only [Act.put, List.setIfInBounds_toArray, List.set_cons_zero, List.set_cons_succ, i64_w, i32_w]
            rfl
          refine pure_ (i := 4) (N := some 108) (v := ?_) (a' := ?_) #[true, true, true, true, true, false, false, false, false] rfl rfl (any_of rfl (by kernel_rfl)) (fun _ _ _ h => h) (Or.inl ⟨by rfl, ?_⟩) ?_ ?_
          rotate_left
          · intro w'
            go_simp
            with_reducible rfl
          rotate_left
          · simp only [Act.put, List.setIfInBounds_toArray, List.set_cons_zero, List.set_cons_succ, i64_w, i32_w]
            rfl
          refine pure_ (i := 5) (N := some 109) (v := ?_) (a' := ?_) #[true, true, true, true, true, true, false, false, false] rfl rfl (any_of rfl (by kernel_rfl)) (fun _ _ _ h => h) (Or.inl ⟨by rfl, ?_⟩) ?_ ?_
          rotate_left
          · intro w'
            go_simp
            with_reducible rfl
          rotate_left
          · simp only [Act.put, List.setIfInBounds_toArray, List.set_cons_zero, List.set_cons_succ, i64_w, i32_w]
            rfl
          refine pure_ (i := 6) (N := some 110) (v := ?_) (a' := ?_) #[true, true, true, true, true, true, true, false, false] rfl rfl (any_of rfl (by kernel_rfl)) (fun _ _ _ h => h) (Or.inl ⟨by rfl, ?_⟩) ?_ ?_
          rotate_left
          · intro w'
            go_simp
            with_reducible rfl
          rotate_left
          · simp only [Act.put, List.setIfInBounds_toArray, List.set_cons_zero, List.set_cons_succ, i64_w, i32_w]
            rfl
          refine pure_ (i := 7) (N := some 111) (v := ?_) (a' := ?_) #[true, true, true, true, true, true, true, true, false] rfl rfl (any_of rfl (by kernel_rfl)) (fun _ _ _ h => h) (Or.inl ⟨by rfl, ?_⟩) ?_ ?_
          rotate_left
          · intro w'
            go_simp
            with_reducible rfl
          rotate_left
          · simp only [Act.put, List.setIfInBounds_toArray, List.set_cons_zero, List.set_cons_succ, i64_w, i32_w]
            rfl
          refine last_ (i := 8) (N := none) #[true, true, true, true, true, true, true, true, true] rfl rfl (one_of rfl (by kernel_rfl)) (by decide) (fun K hK => ?_)
          refine skip_ (w1 := ?_) (by rfl) rfl ?_ ?_
          rotate_left
          · go_simp
            rfl
          refine hK.out _ _ ?_
          clear hK K
          refine done_ (done_of rfl (by kernel_rfl)) ?_
          clear y0 f0 hHeld D6a hz1 hz2 hz1' hz2'
          replace K10 := blk_far K10 (p := ⟨g12, 0, none⟩) (by show wr.heap.size ≠ g12; omega) (.int .i64 z2)
          replace K11 := blk_far K11 (p := ⟨g12, 0, none⟩) (by show g11 ≠ g12; omega) (.int .i64 z2)
          replace K12 := blk_put (cs' := #[.int .i64 z2, .slice A1 l1.length c1, .slice A2 l2.length c2]) K12 0 (.int .i64 z2) rfl
          replace BB := BB.setCell (p := ⟨g12, 0, none⟩) (by show wr.heap.size ≤ g12; omega) (.int .i64 z2)
          generalize W23.setCell ⟨g12, 0, none⟩ (.int .i64 z2) = W24 at *
          have hcr1 := Kd.C_below hr1 F9.2
          have hcr2 := Kd.C_below hr2 F9.2
          have hGw : ∀ W, Below wr.heap.size wr W → Glob W := fun W hW => Glob.below hG (F9.2.trans (hW.mono F9.2.size))
          have hvi := HO.out.1
          have hlen := H12.out
          have hn := HO.out.2.1
          have ht17 : (l1.take 17).length = 17 := by rw [List.length_take]; omega
          have V1 := Lib.hid (fun (W : World) (hW : Below wr.heap.size wr W) => seal_Verify.calls a0 a1 n A1 c1 (l1.take 17) A2 c2 l2 false W (Kd.C_take (Kd.C_below hcr1 hW) (by omega)) (by omega) (Kd.C_below hcr2 hW) hc2
            ((Pure.ver_f a0 a1 n (l1.take 17) l2 ⟨hvi.1, fun s hs => hvi.2.1 s (List.mem_of_mem_take hs), hvi.2.2.1, by omega, hvi.2.2.2.2⟩).trans (congrArg some (ver_no (fun k => absurd k.1 (by omega))))) (hGw W hW))
          have V2 := Lib.hid (fun (W : World) (hW : Below wr.heap.size wr W) => seal_Verify.calls a0 a1 z1 A1 c1 l1 A2 c2 l2 false W (Kd.C_below hcr1 hW) hc1 (Kd.C_below hcr2 hW) hc2
            ((Pure.ver_f a0 a1 z1 l1 l2 hvi).trans (congrArg some (ver_no (fun k => absurd k.2.2.2.2.2 (by rw [HPw.out, Z1.out]; omega))))) (hGw W hW))
          have V3 := Lib.hid (fun (W : World) (hW : Below wr.heap.size wr W) => seal_Verify.calls a0 a1 z2 A1 c1 l1 A2 c2 l2 false W (Kd.C_below hcr1 hW) hc1 (Kd.C_below hcr2 hW) hc2
            ((Pure.ver_f a0 a1 z2 l1 l2 hvi).trans (congrArg some (ver_no (fun k => absurd k.2.2.2.2.1 (by rw [Z2.out]; omega))))) (hGw W hW))
          rw [ht17] at V1
          have BB' := Lib.hid BB
          have F9' := Lib.hid F9
          clear BB hcr1 hcr2 hGw hvi hlen hn ht17 FB F10 F9 q0 hgw hl10 hl18 hl11 hl11' hl21 hl12 hg12 hr1 hr2 hc1 hc2
          have x0 : W24.cell? ⟨wr.heap.size, 0, none⟩ = some (.int .i64 n) := (blk_cell K10 0).trans rfl
          have x1 : W24.cell? ⟨wr.heap.size, 1, none⟩ = some (.slice A1 17 c1) := (blk_cell K10 1).trans rfl
          have x2 : W24.cell? ⟨wr.heap.size, 2, none⟩ = some (.slice A2 l2.length c2) := (blk_cell K10 2).trans rfl
          go_wp2_with (first
            | (go_at_call 33; ((with_reducible refine (V1.out W24 BB'.out).mono ?_); rintro e w25 ⟨rfl, b25⟩; have k11 := blk_below K11 b25; have k12 := blk_below K12 b25; have BA := Lib.hid (BB'.out.trans (b25.mono BB'.out.size)); have y0 : w25.cell? ⟨g11, 0, none⟩ = some (.int .i64 z1) := (blk_cell k11 0).trans rfl; have y1 : w25.cell? ⟨g11, 1, none⟩ = some (.slice A1 l1.length c1) := (blk_cell k11 1).trans rfl; have y2 : w25.cell? ⟨g11, 2, none⟩ = some (.slice A2 l2.length c2) := (blk_cell k11 2).trans rfl; clear b25))
            | (go_at_call 33; ((with_reducible refine (V2.out w25 BA.out).mono ?_); rintro e w26 ⟨rfl, b26⟩; replace k12 := blk_below k12 b26; have BC := Lib.hid (BA.out.trans (b26.mono BA.out.size)); have v0 : w26.cell? ⟨g12, 0, none⟩ = some (.int .i64 z2) := (blk_cell k12 0).trans rfl; have v1 : w26.cell? ⟨g12, 1, none⟩ = some (.slice A1 l1.length c1) := (blk_cell k12 1).trans rfl; have v2 : w26.cell? ⟨g12, 2, none⟩ = some (.slice A2 l2.length c2) := (blk_cell k12 2).trans rfl; clear b26))
            | (go_at_call 33; ((with_reducible refine (V3.out w26 BC.out).mono ?_); rintro e w27 ⟨rfl, b27⟩; have BE := Lib.hid (BC.out.trans (b27.mono BC.out.size)); clear b27)))
          go_ret
          exact ⟨rfl, F9'.out.2.trans (BE.out.mono F9'.out.2.size)⟩
end
end Go.Proofs.YteleheamnighkaaDoor
end
section
set_option linter.unusedVariables false
set_option linter.unusedSimpArgs false
namespace Go.Proofs.YteleheamnighkaaDoor
open Go.RowKit Go.DoorKit Go.Proofs.YteleheamnighkaaDoorW.PrintWords
theorem climb_isD : ∀ {X : Dig.Txt} (_ : Dig.isD X = true) (i : Nat) (ps : List Dig.Txt), Dig.isD (Dig.climb X i ps) = true
  | _, h, _, [] => h
  | _, _, i, p :: ps => climb_isD (isD_sum _) (i / 2) ps
namespace PSForm
def planispherelaw02_SealForm.f (a0 a1 : ByteArray) (i : Int) (l1 l2 : List ByteArray) : Option Bool := some true
theorem planispherelaw02_SealForm.calls (a0 a1 : ByteArray) (i : Int) (A1 : Option Addr) (c1 : Nat) (l1 : List ByteArray) (A2 : Option Addr) (c2 : Nat) (l2 : List ByteArray) (r : Bool) (w : World) (hr1 : Kd.C Kd.string w A1 l1.length l1) (hc1 : l1.length ≤ c1) (hr2 : Kd.C Kd.string w A2 l2.length l2) (hc2 : l2.length ≤ c2)
    (h : planispherelaw02_SealForm.f a0 a1 i l1 l2 = some r) (hG : Glob w) :
    Calls Tryd.prog 14 #[.string a0, .string a1, .agg #[.int .i64 i, .slice A1 l1.length c1, .slice A2 l2.length c2]] w fun e w' => e = .returned (.bool r) ∧ Below w.heap.size w w' := by
  obtain rfl : true = r := Option.some.inj h
  cases hs : BaseFacts.shortT [a0, a1] with
  | false => exact form_a a0 a1 i A1 A2 c1 c2 l1 l2 w hG hs
  | true =>
    cases hf : decide (fewS l1 l2) with
    | false => exact form_b a0 a1 i A1 A2 c1 c2 l1 l2 w hG hr1 hr2 hc1 hc2 hs hf
    | true =>
      have hs1 := Pure.shortT_out hs a1 (by simp)
      obtain ⟨f1, f2, f3, f4⟩ := of_decide_eq_true hf
      have hvi : verIn a1 l1 l2 := verIn_small hs1 (fun x hx => Nat.le_trans (f3 x hx) (by decide)) (fun x hx => Nat.le_trans (f4 x hx) (by decide)) (by omega) (by omega)
      cases hv : verR a0 a1 i l1 l2 with
      | false => exact form_c a0 a1 i A1 A2 c1 c2 l1 l2 w hG hr1 hr2 hc1 hc2 hs hf hvi hv
      | true =>
        obtain ⟨n, rfl, v1, v2, v3, v4, v5, v6⟩ := Pure.ver_out hv
        have hd : Dig.isD (tx a0) = true := by
          rw [v6, tx_ofT]
          exact climb_isD (isD_sum _) n _
        exact form_d a0 a1 A1 A2 c1 c2 l1 l2 w n hG hr1 hr2 hc1 hc2 hs hf hvi hv v1 v2 v5 hd v3 v4
end PSForm
namespace Pure
theorem sform_pure (a0 : ByteArray) (h0 : a0.size ≤ 140737488351232) (a1 : ByteArray) (h1 : a1.size ≤ 140737488351232) (i : Int) (wi : (Lit.int .i64 i).wf = true) (l1 : List ByteArray) (hl1 : l1.length ≤ 9223372036854775807) (l2 : List ByteArray) (hl2 : l2.length ≤ 9223372036854775807) :
    PSForm.planispherelaw02_SealForm.f a0 a1 i l1 l2 = some true := rfl
end Pure
end Go.Proofs.YteleheamnighkaaDoor
end
section
set_option linter.unusedVariables false
namespace Go.Proofs.YteleheamnighkaaDoor
open Go.ChangeShapes Go.WideShapes Go.ChangeAt Go.RowKit Go.Proofs.YteleheamnighkaaDoorW.PrintWords
open Go.ChangeMaps (open_string shut_string)
namespace RK
def laidL : List (String × DataW Unit) := [("math/bits.deBruijn32tab", Rows.laid_math_bits_deBruijn32tab), ("math/bits.deBruijn64tab", Rows.laid_math_bits_deBruijn64tab), ("internal/strconv.uint64pow10", Rows.laid_internal_strconv_uint64pow10), ("unicode/utf8.acceptRanges", Rows.laid_unicode_utf8_acceptRanges), ("unicode/utf8.first", Rows.laid_unicode_utf8_first)]
theorem pow_data : Rows.laid_internal_strconv_uint64pow10 (H := Unit) = Lib.tabData .u64 Lib.pow10Tab := by kernel_rfl
theorem tabIs_of_reads {P : Program} {W : World} {name : String} {k : IntKind} {zs : List Int} {g : Nat} {t e : TypeId} {n : Nat}
    (hg : P.globalNamed name = some g) (hty : (P.globals[g]?).map (·.type) = some t) (ht : P.underlying t = some (.array n e)) (he : P.underlying e = some (.int k)) (hce : P.cellsOf e = 1) (hct : P.cellsOf t = n)
    (h : Lib.VarReads P W name (Lib.tabData k zs)) : Lib.TabIs P W name k zs := by
  obtain ⟨g', t', cs, fuel, p, hg', ht', hvar, hd⟩ := h
  obtain rfl := Option.some.inj (hg.symm.trans hg')
  obtain rfl := Option.some.inj (hty.symm.trans ht')
  unfold Lib.TabIs
  rw [hvar, ← Lib.cells_of_tab ht he hce hct hd]
theorem glob {W : World} (h : laidMetH Tryd.prog laidL W) : Glob W := by
  rw [MakeChecks.laidMetH_plain _ _ _ (by kernel_rfl)] at h
  have hr := Lib.laidMet.reads h (n := "internal/strconv.uint64pow10") (d := Rows.laid_internal_strconv_uint64pow10) (by simp [laidL])
  rw [pow_data] at hr
  exact tabIs_of_reads (g := 0) (t := 118) (e := 54) (n := 20) (by kernel_rfl) (by kernel_rfl) Tryd.underlying118 Tryd.underlying54 (by kernel_rfl) (by kernel_rfl) hr
theorem own : ownKnob Tryd.prog.godebug = none := by kernel_rfl
theorem laidOut : laidOutB Tryd.prog = true := by kernel_rfl
theorem sized {H : Type} {ts : List TypeId} {ds : List (DataW H)} {s : ByteArray} (h : (DataW.weightsEach Tryd.prog ts ds).all (· ≤ reachBytes) = true) (j t : Nat) (ht : ts[j]? = some t) (hd : ds[j]? = some (.lit (.string s.data.toList))) : s.size ≤ 140737488351232 := by
  have z := sized_string h ht hd
  rw [Array.length_toList] at z
  exact z
variable {H : Type} {enc : TypeId × Value → H} {W : World} {base : Nat} {sp : Nat → Bool} {held : Bool}
theorem kd_of_cells {A : Addr} {len : Nat} {ss : List ByteArray} (hl : len ≤ ss.length) (hm : len ≤ maxLen) (hc : ∀ i, i < ss.length → W.cell? (A.add i) = some (.string (ss.getD i ByteArray.empty))) :
    Kd.C Kd.string W (some A) (ss.take len).length (ss.take len) := by
  have hle : (ss.take len).length = len := by simp; omega
  refine Kd.C_of_reads (d := ByteArray.empty) (h1 := fun _ => rfl) ?_
  refine ⟨rfl, by rw [hle]; exact hm, fun hn => ⟨A, rfl, fun j hj => ?_⟩⟩
  rw [hle] at hj
  rw [hc j (by omega)]
  simp [List.getD, hj]
end RK
end Go.Proofs.YteleheamnighkaaDoor
end
section
set_option linter.unusedVariables false
namespace Go.Proofs.YteleheamnighkaaDoor
open Go.ChangeShapes Go.WideShapes Go.ChangeAt Go.RowKit Go.Proofs.YteleheamnighkaaDoorW.PrintWords
namespace RK
variable {H : Type} {enc : TypeId × Value → H} {W : World} {base : Nat} {sp : Nat → Bool} {held : Bool}
theorem list_of {fuel : Nat} {v : Value} {y : DataW H × List MemPlace} (hf : DataW.trod enc Tryd.prog W 0 sp held fuel 22 [v] = some y) :
    ∃ (A : Option Addr) (c : Nat) (l : List ByteArray), v = .slice A l.length c ∧ Kd.C Kd.string W A l.length l ∧ l.length ≤ c ∧ c ≤ maxLen := by
  rcases open_strings Tryd.underlying22 Tryd.underlying9 (by kernel_rfl) hf with ⟨hcs, _⟩ | ⟨x, len', cap', ss, hcs, _, hl, hm, hlen, _, hcell, hsz⟩
  · obtain rfl : v = .slice none 0 0 := by injection hcs
    exact ⟨none, 0, [], rfl, Kd.C_of_reads (d := ByteArray.empty) (h1 := fun _ => rfl) ⟨rfl, Nat.zero_le _, fun hn => absurd hn (by simp)⟩, Nat.le_refl _, Nat.zero_le _⟩
  · obtain rfl : v = .slice (some x) len' cap' := by injection hcs
    have hss : len' ≤ ss.length := by rw [hlen]; split <;> omega
    have hle : (ss.take len').length = len' := by simp; omega
    exact ⟨some x, cap', ss.take len', by rw [hle], kd_of_cells hss (Nat.le_trans hl hm) hcell, by rw [hle]; exact hl, hm⟩
set_option maxRecDepth 100000 in
theorem open_seal {v : Value} {d : DataW H} {p : List MemPlace} (hv : Value.okWide Tryd.prog W .any base 35 v) (h : DataW.Trod enc Tryd.prog W 0 sp held 35 v d p) :
    ∃ (n : Int) (A : Option Addr) (c : Nat) (l : List ByteArray) (B : Option Addr) (e : Nat) (m : List ByteArray), v = .agg #[.int .i64 n, .slice A l.length c, .slice B m.length e] ∧ (Lit.int .i64 n).wf = true ∧
      Kd.C Kd.string W A l.length l ∧ l.length ≤ c ∧ c ≤ maxLen ∧ Kd.C Kd.string W B m.length m ∧ m.length ≤ e ∧ e ≤ maxLen := by
  obtain ⟨v0, v1, v2, y0, y1, y2, n, rfl, _, _, h0, h1, h2⟩ := Joins.open_agg3 Tryd.underlying35 (by kernel_rfl) (by kernel_rfl) hv h
  obtain ⟨z, hz, _, hw⟩ := DataW.trod_int Tryd.underlying3 h0
  obtain rfl : v0 = .int .i64 z := by injection hz
  obtain ⟨A, c, l, rfl, a1, a2, a3⟩ := list_of h1
  obtain ⟨B, e, m, rfl, b1, b2, b3⟩ := list_of h2
  exact ⟨z, A, c, l, B, e, m, rfl, hw, a1, a2, a3, b1, b2, b3⟩
end RK
end Go.Proofs.YteleheamnighkaaDoor
end
