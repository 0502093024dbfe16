/-
The walk of NetRefuses.
-/
import Derived.Test.YtamjclpopkfhmaaRefPlain
set_option linter.unusedVariables false
set_option linter.unusedSimpArgs false
namespace Go.Proofs.Ytamjclpopkfhmaa
open Go.RowKit Go.NetKit

theorem box_cells2 {w : World} {X : Nat} {o : OpS} (h : bk w X = some (.cells (opC o) 35)) :
    w.cell? ⟨X, 0, none⟩ = some (.int .i64 o.kind) ∧ w.cell? ⟨X, 1, none⟩ = some (.int .i64 o.a) ∧ w.cell? ⟨X, 2, none⟩ = some (.int .i64 o.b) ∧ w.cell? ⟨X, 3, none⟩ = some (.int .i64 o.idx) ∧
    w.cell? ⟨X, 4, none⟩ = some (.int .i64 o.at_) ∧ w.cell? ⟨X, 5, none⟩ = some (.int .i64 o.mask) ∧ w.cell? ⟨X, 6, none⟩ = some (.string o.text) ∧ w.cell? ⟨X, 7, none⟩ = some (.bool o.flag) := by
  refine ⟨?_, ?_, ?_, ?_, ?_, ?_, ?_, ?_⟩ <;> (rw [cell?_bk h]; rfl)
theorem one_opsAt (w : World) (o : OpS) : OpsAt (w.heap.size + 1) (w.alloc (.cells (opC o) 35)) (some ⟨w.heap.size, 0, none⟩) [o] := by
  refine ⟨by simp, fun _ => ⟨w.heap.size, 0, rfl, by omega, fun i hi j v hv => ?_⟩⟩
  obtain rfl : i = 0 := by simp at hi; exact hi
  rw [cell?_bk bk_alloc_new]
  simpa [opAt] using hv

set_option maxHeartbeats 4000000 in
set_option maxRecDepth 100000 in
theorem refuses_few (w : World) (A : Option Addr) (cap : Nat) (ops : List OpS) (h : OpsAt w.heap.size w A ops) (o : OpS) (hf : fewOps ops = false) :
    Calls Try.prog 8 #[.slice A ops.length cap, .agg (opC o)] w fun e w' => e = .returned (.bool true) ∧ Fr (fun _ => False) w w' := by
  have HO := Lib.hid h
  have HA := Lib.hid (show Fr (fun _ => False) w (w.alloc (.cells (opC o) 35)) from (Fr.refl _ w).alloc _)
  have HF := Lib.hid hf
  clear h hf
  go_enter Try.func8, Try.ntmps8
  rw [show opC o = #[.int .i64 o.kind, .int .i64 o.a, .int .i64 o.b, .int .i64 o.idx, .int .i64 o.at_, .int .i64 o.mask, .string o.text, .bool o.flag] from rfl]
  go_wp2_with fail
  refine (head_calls _).mono ?_
  rintro e w0 ⟨rfl, hf0⟩
  have H0 := Lib.hid (show Fr (fun _ => False) (w.alloc (.cells (opC o) 35)) w0 from hf0); clear hf0
  go_wp2_with fail
  refine ((Two.start w0).made 3 (by omega) (by omega)).mono ?_
  rintro e w1 ⟨g, rfl, t1⟩
  have H1 := Lib.hid t1; clear t1
  go_wp2_with fail
  refine (H1.out.symm.made 3 (by omega) (by omega)).mono ?_
  rintro e w2 ⟨g2, rfl, t2⟩
  have H2 := Lib.hid t2.symm; clear t2
  go_wp2_with fail
  refine (few_raw w.heap.size w2 A cap ops (HO.out.later (HA.out.trans (H0.out.trans H2.out.fr)))).mono ?_
  rintro e w3 ⟨rfl, rfl⟩
  rw [HF.out]
  go_wp2_with fail
  go_ret
  exact ⟨rfl, HA.out.trans (H0.out.trans H2.out.fr)⟩

set_option maxHeartbeats 4000000 in
set_option maxRecDepth 100000 in
theorem refuses_few2 (w : World) (A : Option Addr) (cap : Nat) (ops : List OpS) (h : OpsAt w.heap.size w A ops) (o : OpS) (hf : fewOps ops = true) (hg : fewOps [o] = false) :
    Calls Try.prog 8 #[.slice A ops.length cap, .agg (opC o)] w fun e w' => e = .returned (.bool true) ∧ Fr (fun _ => False) w w' := by
  have HO := Lib.hid h
  have HA := Lib.hid (show Fr (fun _ => False) w (w.alloc (.cells (opC o) 35)) from (Fr.refl _ w).alloc _)
  have HF := Lib.hid hf
  have HG := Lib.hid hg
  clear h hf hg
  go_enter Try.func8, Try.ntmps8
  rw [show opC o = #[.int .i64 o.kind, .int .i64 o.a, .int .i64 o.b, .int .i64 o.idx, .int .i64 o.at_, .int .i64 o.mask, .string o.text, .bool o.flag] from rfl]
  go_wp2_with fail
  refine (head_calls _).mono ?_
  rintro e w0 ⟨rfl, hf0⟩
  have H0 := Lib.hid (show Fr (fun _ => False) (w.alloc (.cells (opC o) 35)) w0 from hf0); clear hf0
  go_wp2_with fail
  refine ((Two.start w0).made 3 (by omega) (by omega)).mono ?_
  rintro e w1 ⟨g, rfl, t1⟩
  have H1 := Lib.hid t1; clear t1
  go_wp2_with fail
  refine (H1.out.symm.made 3 (by omega) (by omega)).mono ?_
  rintro e w2 ⟨g2, rfl, t2⟩
  have H2 := Lib.hid t2.symm; clear t2
  go_wp2_with fail
  refine (few_raw w.heap.size w2 A cap ops (HO.out.later (HA.out.trans (H0.out.trans H2.out.fr)))).mono ?_
  rintro e w3 ⟨rfl, rfl⟩
  rw [HF.out]
  obtain ⟨c0, c1, c2, c3, c4, c5, c6, c7⟩ := box_cells2 ((H0.out.trans H2.out.fr).bk (bk_alloc_new (w := w) (o := .cells (opC o) 35)) (fun h => h))
  go_wp2_with fail
  refine (few_raw (w3.heap.size + 1) (w3.alloc (.cells (opC o) 35)) (some ⟨w3.heap.size, 0, none⟩) 1 [o] (one_opsAt w3 o)).mono ?_
  rintro e w4 ⟨rfl, rfl⟩
  rw [HG.out]
  clear c0 c1 c2 c3 c4 c5 c6 c7
  go_wp2_with fail
  go_ret
  exact ⟨rfl, (HA.out.trans (H0.out.trans H2.out.fr)).alloc _⟩

end Go.Proofs.Ytamjclpopkfhmaa
