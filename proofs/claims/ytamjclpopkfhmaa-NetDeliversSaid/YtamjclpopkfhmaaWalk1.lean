/-
The walks of the network's inner functions: of, get, take, New.
-/
import Derived.Test.YtamjclpopkfhmaaProg
import Derived.Test.YtamjclpopkfhmaaSpec
import Derived.Deep.QuietTactic
import Derived.BigQuiet
import Derived.BigRegion
import Derived.RegionTactic
set_option linter.unusedVariables false
set_option linter.unusedSimpArgs false
namespace Go.Proofs.Ytamjclpopkfhmaa
open Go.RowKit Go.NetKit

theorem Try.cells3 : Try.prog.cellsOf 3 = 1 := by kernel_rfl
theorem Try.info3 : (Try.prog.info? 3).isSome = true := by kernel_rfl
theorem Try.zero65 : (Try.prog.info? 65).bind (·.zero) = some (.pointer none) := by kernel_rfl
theorem Try.zero4 : (Try.prog.info? 4).bind (·.zero) = some (.bool false) := by kernel_rfl

theorem bind_some' {α β : Type} {x : Option α} {f : α → Option β} {b : β} (h : x.bind f = some b) : ∃ a, x = some a ∧ f a = some b := by
  cases x with
  | none => simp at h
  | some a => exact ⟨a, rfl, h⟩

theorem lookup57 (mq : Nat) (E : List Ent) (ck : Nat) (f t : Int) (W : World) (h : bk W mq = some (.map (ents E) ck)) :
    (Instr.lookup 57 (.map (some mq)) (.agg #[.int .i64 f, .int .i64 t]) false).run Try.prog W = .ok ((lk f t E).getD (.pointer none)) W := by
  obtain ⟨i, hi⟩ := Option.isSome_iff_exists.1 Try.info3
  obtain ⟨z, hz, hz0⟩ := bind_some' Try.zero65
  exact run_lookup2 W Try.underlying57 Try.underlying45 Try.underlying3 hi Try.cells3 hz hz0 mq ck E h f t
theorem lookup58 (mc : Nat) (C : List Ent) (ck : Nat) (f t : Int) (W : World) (h : bk W mc = some (.map (ents C) ck)) :
    (Instr.lookup 58 (.map (some mc)) (.agg #[.int .i64 f, .int .i64 t]) false).run Try.prog W = .ok ((lk f t C).getD (.bool false)) W := by
  obtain ⟨i, hi⟩ := Option.isSome_iff_exists.1 Try.info3
  obtain ⟨z, hz, hz0⟩ := bind_some' Try.zero4
  exact run_lookup2 W Try.underlying58 Try.underlying45 Try.underlying3 hi Try.cells3 hz hz0 mc ck C h f t
theorem update57 (mq : Nat) (E : List Ent) (ck : Nat) (f t : Int) (v : Value) (W : World) (h : bk W mq = some (.map (ents E) ck)) :
    (Instr.mapUpdate 57 (.map (some mq)) (.agg #[.int .i64 f, .int .i64 t]) v).run Try.prog W = .ok () (setBk W mq (.map (ents (put f t v ck E)) (if (lk f t E).isSome then ck else ck + 1))) := by
  obtain ⟨i, hi⟩ := Option.isSome_iff_exists.1 Try.info3
  exact run_update2 W Try.underlying57 Try.underlying45 Try.underlying3 hi Try.cells3 mq ck E h f t v

/-! of -/
set_option maxHeartbeats 400000 in
theorem of_nil (f t : Int) (w : World) :
    Calls Try.prog 30 #[.pointer none, .int .i64 f, .int .i64 t] w fun e w' => e = .returned (.tuple #[.pointer none, .bool false]) ∧ w' = w := by
  go_enter Try.func30, Try.ntmps30
  go_wp2
  go_ret2
  exact ⟨rfl, rfl⟩

set_option maxHeartbeats 400000 in
theorem of_bad (g mq mc : Nat) (nodes f t : Int) (w : World)
    (hg : bk w g = some (.cells #[.int .i64 nodes, .map (some mq), .map (some mc)] 60 (0, 0)))
    (h : f < 0 ∨ t < 0 ∨ nodes ≤ f ∨ nodes ≤ t ∨ f = t) :
    Calls Try.prog 30 #[.pointer (some ⟨g, 0, none⟩), .int .i64 f, .int .i64 t] w fun e w' => e = .returned (.tuple #[.pointer none, .bool false]) ∧ w' = w := by
  have c0 : w.cell? ⟨g, 0, none⟩ = some (.int .i64 nodes) := by rw [cell?_bk hg]; rfl
  clear hg
  by_cases h1 : min f t < 0
  · have e1 : decide (min f t < 0) = true := by simpa using h1
    go_enter Try.func30, Try.ntmps30
    go_wp2
    all_goals
      go_ret2
      exact ⟨rfl, rfl⟩
  · by_cases h2 : nodes ≤ max f t
    · go_enter Try.func30, Try.ntmps30
      go_wp2
      all_goals first
        | (go_ret2; exact ⟨rfl, rfl⟩)
        | (exfalso; omega)
    · have h3 : f = t := by omega
      subst h3
      go_enter Try.func30, Try.ntmps30
      go_wp2
      all_goals first
        | (go_ret2; exact ⟨rfl, rfl⟩)
        | (exfalso; omega)

set_option maxHeartbeats 400000 in
theorem of_new (g mq mc : Nat) (nodes f t : Int) (E : List Ent) (ck : Nat) (w : World)
    (hg : bk w g = some (.cells #[.int .i64 nodes, .map (some mq), .map (some mc)] 60 (0, 0)))
    (hq : bk w mq = some (.map (ents E) ck)) (h0 : 0 ≤ f) (h1 : 0 ≤ t) (h2 : f < nodes) (h3 : t < nodes) (h4 : (f == t) = false) (hl : lk f t E = none) :
    Calls Try.prog 30 #[.pointer (some ⟨g, 0, none⟩), .int .i64 f, .int .i64 t] w fun e w' => e = .returned (.tuple #[.pointer (some ⟨w.heap.size+1,0,none⟩), .bool true]) ∧ ∃ n, w' = (setBk ((w.alloc (Obj.cells #[Value.int IntKind.i64 f, Value.int IntKind.i64 t] 45)).alloc (.cells #[.slice none 0 0] 70)) mq (.map (ents (put f t (.pointer (some ⟨w.heap.size+1,0,none⟩)) ck E)) (ck + 1))).drewN n := by
  have c0 : w.cell? ⟨g, 0, none⟩ = some (.int .i64 nodes) := by rw [cell?_bk hg]; rfl
  have c1 : w.cell? ⟨g, 1, none⟩ = some (.map (some mq)) := by rw [cell?_bk hg]; rfl
  have lg := bk_lt hg
  have lq := bk_lt hq
  have lg1 : g < w.heap.size + 1 := by omega
  have lq1 : mq < w.heap.size + 1 := by omega
  have lg2 : g < w.heap.size + 1 + 1 := by omega
  have lq2 : mq < w.heap.size + 1 + 1 := by omega
  have ng : ¬ g = mq := by rintro rfl; rw [hg] at hq; cases hq
  clear hg
  have hlk := fun W h => lookup57 mq E ck f t W h
  have hup := fun v W h => update57 mq E ck f t v W h
  simp only [hl, Option.getD_none, Option.isSome_none, Bool.false_eq_true, if_false] at hlk hup
  have hlk3 : ∀ W, bk W mq = some (.map (ents (put f t (.pointer (some ⟨w.heap.size+1,0,none⟩)) ck E)) (ck + 1)) → (Instr.lookup 57 (.map (some mq)) (.agg #[.int .i64 f, .int .i64 t]) false).run Try.prog W = .ok (.pointer (some ⟨w.heap.size+1,0,none⟩)) W := fun W h => by
    rw [lookup57 mq _ _ f t W h, lk_put, if_pos ⟨rfl, rfl⟩]; rfl
  have ns : ¬ w.heap.size = mq := by omega
  clear hl
  go_enter Try.func30, Try.ntmps30
  go_wp2
  all_goals
    go_quiet (fail)
    go_wp2
    go_region
    go_wp2
    go_quiet (fail)
    go_wp2
    go_ret2
    exact ⟨rfl, _, World.drewN_drewN _ _ _⟩

set_option maxHeartbeats 400000 in
theorem of_old (g mq mc q : Nat) (nodes f t : Int) (E : List Ent) (ck : Nat) (w : World)
    (hg : bk w g = some (.cells #[.int .i64 nodes, .map (some mq), .map (some mc)] 60 (0, 0)))
    (hq : bk w mq = some (.map (ents E) ck)) (h0 : 0 ≤ f) (h1 : 0 ≤ t) (h2 : f < nodes) (h3 : t < nodes) (h4 : (f == t) = false) (hl : lk f t E = some (.pointer (some ⟨q, 0, none⟩))) :
    Calls Try.prog 30 #[.pointer (some ⟨g, 0, none⟩), .int .i64 f, .int .i64 t] w fun e w' => e = .returned (.tuple #[.pointer (some ⟨q,0,none⟩), .bool true]) ∧ ∃ n, w' = (w.alloc (Obj.cells #[Value.int IntKind.i64 f, Value.int IntKind.i64 t] 45)).drewN n := by
  have c0 : w.cell? ⟨g, 0, none⟩ = some (.int .i64 nodes) := by rw [cell?_bk hg]; rfl
  have c1 : w.cell? ⟨g, 1, none⟩ = some (.map (some mq)) := by rw [cell?_bk hg]; rfl
  have lg := bk_lt hg
  have lq := bk_lt hq
  have lg1 : g < w.heap.size + 1 := by omega
  have lq1 : mq < w.heap.size + 1 := by omega
  clear hg
  have hlk := fun W h => lookup57 mq E ck f t W h
  simp only [hl, Option.getD_some] at hlk
  clear hl
  go_enter Try.func30, Try.ntmps30
  go_wp2
  all_goals
    go_quiet (fail)
    go_wp2
    go_quiet (fail)
    go_wp2
    go_ret2
    exact ⟨rfl, _, World.drewN_drewN _ _ _⟩

/-! get -/
set_option maxHeartbeats 400000 in
theorem get_nil (i : Int) (w : World) :
    Calls Try.prog 31 #[.pointer none, .int .i64 i] w fun e w' => e = .returned (.tuple #[.slice none 0 0, .bool false]) ∧ w' = w := by
  go_enter Try.func31, Try.ntmps31
  go_wp2
  go_ret2
  exact ⟨rfl, rfl⟩
set_option maxHeartbeats 400000 in
theorem get_no (q : Nat) (A : Option Addr) (n c : Nat) (i : Int) (w : World) (hq : bk w q = some (.cells #[.slice A n c] 70 (0, 0))) (h : i < 0 ∨ (n : Int) ≤ i) :
    Calls Try.prog 31 #[.pointer (some ⟨q, 0, none⟩), .int .i64 i] w fun e w' => e = .returned (.tuple #[.slice none 0 0, .bool false]) ∧ w' = w := by
  have c0 : w.cell? ⟨q, 0, none⟩ = some (.slice A n c) := by rw [cell?_bk hq]; rfl
  clear hq
  by_cases h1 : i < 0
  · go_enter Try.func31, Try.ntmps31
    go_wp2
    go_ret2
    exact ⟨rfl, rfl⟩
  · have h2 : (n : Int) ≤ i := by omega
    go_enter Try.func31, Try.ntmps31
    go_wp2
    go_ret2
    exact ⟨rfl, rfl⟩
set_option maxHeartbeats 400000 in
theorem get_yes' (q g : Nat) (n c : Nat) (i : Nat) (v : Value) (w : World) (hq : bk w q = some (.cells #[.slice (some ⟨g, 0, none⟩) n c] 70 (0, 0))) (h : i < n) (hv : w.cell? ⟨g, i, none⟩ = some v) (hs : ∃ A n c, v = .slice A n c) (hn : n ≤ 9223372036854775807) :
    Calls Try.prog 31 #[.pointer (some ⟨q, 0, none⟩), .int .i64 i] w fun e w' => e = .returned (.tuple #[v, .bool true]) ∧ w' = w := by
  have c0 : w.cell? ⟨q, 0, none⟩ = some (.slice (some ⟨g, 0, none⟩) n c) := by rw [cell?_bk hq]; rfl
  clear hq
  obtain ⟨A, n', c', rfl⟩ := hs
  go_enter Try.func31, Try.ntmps31
  go_wp2
  go_ret2
  exact ⟨rfl, rfl⟩
end Go.Proofs.Ytamjclpopkfhmaa
