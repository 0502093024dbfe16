/-
Blocks and frames; run equations of builtins.
-/
import Derived.WalkKit
import Derived.WalkSpells
import Derived.WalkLawsBesides
import Derived.Deep.RegionLaw
import Derived.Maps.AppendAt
import Derived.Deep.OwnRows
import Derived.Lib.Hide
import Derived.Laws.BitsLemmas
set_option linter.unusedVariables false
set_option linter.unusedSimpArgs false
namespace Go.DoorKit
open Go.RowKit

/-! Blocks, told so that the walk's simp leaves them alone. -/
def bk (w : World) (n : Nat) : Option Obj := w.heap[n]?
def setBk (w : World) (r : Nat) (o : Obj) : World := { w with heap := w.heap.setIfInBounds r o }
theorem bk_lt {w : World} {n : Nat} {o : Obj} (h : bk w n = some o) : n < w.heap.size := (Array.getElem?_eq_some_iff.1 h).1
@[go_sem] theorem bk_alloc_lt {w : World} {o : Obj} {n : Nat} (h : n < w.heap.size) : bk (w.alloc o) n = bk w n := Below.heap_alloc w o n h
@[go_sem] theorem bk_alloc_new {w : World} {o : Obj} : bk (w.alloc o) w.heap.size = some o := heap_alloc_new w o
@[go_sem] theorem bk_drewN {w : World} {k n : Nat} : bk (w.drewN k) n = bk w n := rfl
@[go_sem] theorem bk_drew {w : World} {n : Nat} : bk w.drew n = bk w n := rfl
@[go_sem] theorem alloc_drewN (w : World) (k : Nat) (o : Obj) : (w.drewN k).alloc o = (w.alloc o).drewN k := rfl
@[go_sem] theorem bk_setCell_ne {w : World} {p : Addr} {v : Value} {n : Nat} (h : ¬ n = p.block) : bk (w.setCell p v) n = bk w n := Below.heap_setCell w p v n h
@[go_sem] theorem size_setBk {w : World} {r : Nat} {o : Obj} : (setBk w r o).heap.size = w.heap.size := by simp [setBk]
@[go_sem] theorem bk_setBk_ne {w : World} {r : Nat} {o : Obj} {n : Nat} (h : ¬ n = r) : bk (setBk w r o) n = bk w n := by
  simp [bk, setBk, Array.getElem?_setIfInBounds]; intro h'; exact absurd h'.symm h
@[go_sem] theorem bk_setBk {w : World} {r : Nat} {o : Obj} (h : r < w.heap.size) : bk (setBk w r o) r = some o := by
  simp [bk, setBk, h]
@[go_sem] theorem setBk_drewN {w : World} {r k : Nat} {o : Obj} : setBk (w.drewN k) r o = (setBk w r o).drewN k := rfl
@[go_sem] theorem setBk_drew {w : World} {r : Nat} {o : Obj} : setBk w.drew r o = (setBk w r o).drew := rfl
@[go_sem] theorem cell?_setBk {w : World} {r : Nat} {o : Obj} {b i : Nat} (h : ¬ b = r) : (setBk w r o).cell? ⟨b, i, none⟩ = w.cell? ⟨b, i, none⟩ :=
  World.cell?_of_block (w := w) (bk_setBk_ne h)
@[go_sem] theorem frozen?_setBk {w : World} {r : Nat} {o : Obj} {b i : Nat} (h : ¬ b = r) : (setBk w r o).frozen? ⟨b, i, none⟩ = w.frozen? ⟨b, i, none⟩ :=
  World.frozen?_of_block (w := w) (bk_setBk_ne h)
theorem cell?_bk {w : World} {b : Nat} {c : Array Value} {t : TypeId} {fz : Nat × Nat} (h : bk w b = some (.cells c t fz)) (i : Nat) : w.cell? ⟨b, i, none⟩ = c[i]? := by
  unfold bk at h; simp [World.cell?, h]
theorem frozen?_bk {w : World} {b : Nat} {c : Array Value} {t : TypeId} (h : bk w b = some (.cells c t (0, 0))) (i : Nat) : w.frozen? ⟨b, i, none⟩ = false := by
  unfold bk at h; simp [World.frozen?, h]
theorem bk_setCell {w : World} {b i : Nat} {c : Array Value} {t : TypeId} {fz : Nat × Nat} {v : Value} (h : bk w b = some (.cells c t fz)) : bk (w.setCell ⟨b, i, none⟩ v) b = some (.cells (c.setIfInBounds i v) t fz) := by
  unfold bk at *; simp [World.setCell, Array.getElem?_modify, h]

/-- But for the blocks of S, w' is as w was, and new blocks. -/
structure Fr (S : Nat → Prop) (w w' : World) : Prop where
  os : w'.os = w.os
  tape : w'.tape = w.tape
  output : w'.output = w.output
  size : w.heap.size ≤ w'.heap.size
  block : ∀ k, k < w.heap.size → ¬ S k → bk w' k = bk w k
theorem Fr.refl (S : Nat → Prop) (w : World) : Fr S w w := ⟨rfl, rfl, rfl, Nat.le_refl _, fun _ _ _ => rfl⟩
theorem Fr.trans {S : Nat → Prop} {a b c : World} (h : Fr S a b) (k : Fr S b c) : Fr S a c :=
  ⟨k.os.trans h.os, k.tape.trans h.tape, k.output.trans h.output, Nat.le_trans h.size k.size, fun i hi hs => (k.block i (Nat.lt_of_lt_of_le hi h.size) hs).trans (h.block i hi hs)⟩
theorem Fr.weaken {S T : Nat → Prop} {a b : World} (h : Fr S a b) (hs : ∀ k, k < a.heap.size → S k → T k) : Fr T a b :=
  ⟨h.os, h.tape, h.output, h.size, fun i hi hn => h.block i hi (fun hk => hn (hs i hi hk))⟩
/-- Two steps, of which the second one writes into what is S or new. -/
theorem Fr.trans' {S T : Nat → Prop} {a b c : World} (h : Fr S a b) (k : Fr T b c) (hs : ∀ k, k < a.heap.size → T k → S k) : Fr S a c :=
  ⟨k.os.trans h.os, k.tape.trans h.tape, k.output.trans h.output, Nat.le_trans h.size k.size, fun i hi hn => (k.block i (Nat.lt_of_lt_of_le hi h.size) (fun hk => hn (hs i hi hk))).trans (h.block i hi hn)⟩
theorem Fr.drew {S : Nat → Prop} {a b : World} (h : Fr S a b) : Fr S a b.drew := ⟨h.os, h.tape, h.output, h.size, h.block⟩
theorem Fr.drewN {S : Nat → Prop} {a b : World} (h : Fr S a b) (n : Nat) : Fr S a (b.drewN n) := ⟨h.os, h.tape, h.output, h.size, h.block⟩
theorem Fr.alloc {S : Nat → Prop} {a b : World} (h : Fr S a b) (o : Obj) : Fr S a (b.alloc o) :=
  h.trans ⟨rfl, rfl, rfl, by simp, fun k hk _ => bk_alloc_lt hk⟩
theorem Fr.setCell {S : Nat → Prop} {a b : World} (h : Fr S a b) {p : Addr} (hp : p.block < a.heap.size → S p.block) (v : Value) : Fr S a (b.setCell p v) :=
  ⟨h.os, h.tape, h.output, by simpa [World.setCell] using h.size, fun i hi hn => (bk_setCell_ne (fun e => hn (by subst e; exact hp hi))).trans (h.block i hi hn)⟩
theorem Fr.setBk {S : Nat → Prop} {a b : World} (h : Fr S a b) {r : Nat} (hp : r < a.heap.size → S r) (o : Obj) : Fr S a (setBk b r o) :=
  ⟨h.os, h.tape, h.output, by simpa [Go.DoorKit.setBk] using h.size, fun i hi hn => (bk_setBk_ne (fun e => hn (by subst e; exact hp hi))).trans (h.block i hi hn)⟩
theorem Fr.below {S : Nat → Prop} {a b : World} (h : Fr S a b) (B : Nat) (hB : B ≤ a.heap.size) (hs : ∀ k, S k → B ≤ k) : Below B a b :=
  ⟨h.os, h.tape, h.output, h.size, fun k hk => h.block k (Nat.lt_of_lt_of_le hk hB) (fun hk' => absurd (hs k hk') (by omega))⟩
theorem Fr.of_below {a b : World} (h : Below a.heap.size a b) (S : Nat → Prop) : Fr S a b := ⟨h.os, h.tape, h.output, h.size, fun k hk _ => h.block k hk⟩
theorem Fr.of_grown {a b : World} {row : Option Nat} (h : a.grownBy b row) : Fr (fun k => some k = row) a b := ⟨h.os, h.tape, h.output, h.size, fun k hk hn => h.block k hk (fun e => hn e)⟩
theorem Fr.bk {S : Nat → Prop} {a b : World} (h : Fr S a b) {k : Nat} {o : Obj} (hk : bk a k = some o) (hn : ¬ S k) : Go.DoorKit.bk b k = some o := (h.block k (bk_lt hk) hn).trans hk

theorem setRow_eq {w : World} {g : Nat} {old cs : Array Value} {t : TypeId} {fr : Nat × Nat} (h : bk w g = some (.cells old t fr)) : w.setRow g cs = setBk w g (.cells cs t fr) := by
  have hlt := bk_lt h
  have hv : w.heap[g] = .cells old t fr := (Array.getElem?_eq_some_iff.1 h).2
  unfold World.setRow setBk
  congr 1
  apply Array.ext
  · simp
  · intro i h1 h2
    rw [Array.getElem_modify, Array.getElem_setIfInBounds]
    split
    · rename_i e; subst e; simp [hv]
    · rfl

section
variable {P : Program}
theorem setBk_alloc_new {w : World} {a b : Obj} : setBk (w.alloc a) w.heap.size b = w.alloc b := by
  have h : (w.heap.push a).setIfInBounds w.heap.size b = w.heap.push b := by
    apply Array.ext_getElem?
    intro i
    rw [Array.getElem?_setIfInBounds, Array.getElem?_push, Array.getElem?_push]
    by_cases h3 : w.heap.size = i
    · subst h3; simp
    · rw [if_neg h3, if_neg (fun e => h3 e.symm), if_neg (fun e => h3 e.symm)]
  show ({ w with heap := (w.heap.push a).setIfInBounds w.heap.size b } : World) = { w with heap := w.heap.push b }
  rw [h]
/-- copy(b, s), a text into the begin of a row of zeros. -/
theorem run_copy_part (w : World) {t t2 ty e T : TypeId} {inf : TypeInfo} (ht : P.underlying t = some (.slice e)) (hi : P.info? e = some inf)
    (g n c : Nat) (cur : Array Value) (s : ByteArray) (hg : bk w g = some (.cells cur T (0, 0))) (hc : cur.size = n) (hs : s.size ≤ n) :
    (Builtin.copy_ #[t, t2] ty #[.slice (some ⟨g, 0, none⟩) n c, .string s]).run P w = .ok (goInt s.size) (setBk w g (.cells ((s.data.toList.map fun b => Value.int .u8 b.toNat) ++ cur.toList.drop s.size).toArray T (0, 0))) := by
  have hl : (s.data.toList.map fun b => Value.int .u8 b.toNat).length = s.size := by rw [List.length_map]; simp
  have hst := run_storeCells_at P g 0 T (s.data.toList.map fun b => Value.int .u8 b.toNat) 0 cur w hg (by rw [hl, hc]; omega) (by
    intro v hv
    simp only [List.mem_map] at hv
    obtain ⟨b, _, rfl⟩ := hv; rfl)
  simp only [Nat.add_zero, Nat.zero_add, List.take_zero, List.nil_append, hl] at hst
  have hmin : s.size.min n = s.size := Nat.min_eq_left hs
  have ht2 : List.take s.size (s.data.toList.map fun b => Value.int .u8 b.toNat) = s.data.toList.map fun b => Value.int .u8 b.toNat := List.take_of_length_le (by omega)
  simp [Builtin.copy_, run_underlying ht, Builtin.lenOf, Builtin.firstCells, run_sizeOf w hi]
  rw [hmin, ht2, hst, setRow_eq hg]
  rfl
/-- A builtin, met in a region that draws (go_region_law), by its run. -/
theorem step_builtin {ops : Array Oper} {o : Oper} {a : Act} {w w' : World} {K : Act → World → Prop} {Q : Exit → Act → World → Prop} {E : Prop} {v : Value}
    (hg : o.guard = none) (b : Builtin) (xs : Array Operand) (ts : Array TypeId) (hop : o.op = Op.call { callee := Callee.builtin b, args := xs, argTypes := ts })
    (args : Array Value) (hargs : xs.map a.eval = args) (hrun : ∀ ty cs, (builtin b ts ty cs args).run P w = .ok (.value v) w') (hK : K (a.put o.dst v) w') :
    if Region.wanted o (yielded ops a.tmps) = true then Oper.wp P o a w K Q else E := by
  have hw : Region.wanted o (yielded ops a.tmps) = true := by simp [Region.wanted, hg]
  rw [if_pos hw]
  unfold Oper.wp
  simp [execOp, hop, resolve, invoke, hargs, hrun]
  exact hK
/-- .. in one that does not draw. -/
theorem wpList_builtin {ops : Array Oper} {rest : List Oper} {o : Oper} {a : Act} {w w' : World} {Q : Exit → Act → World → Prop} {v : Value}
    (hg : o.guard = none) (b : Builtin) (xs : Array Operand) (ts : Array TypeId) (hop : o.op = Op.call { callee := Callee.builtin b, args := xs, argTypes := ts })
    (args : Array Value) (hargs : xs.map a.eval = args) (hrun : ∀ ty cs, (builtin b ts ty cs args).run P w = .ok (.value v) w') (hK : wpList P ops Q rest (a.put o.dst v) w') :
    wpList P ops Q (o :: rest) a w :=
  wpList_plain hg fun K hk => by
    unfold Oper.wp
    simp [execOp, hop, resolve, invoke, hargs, hrun]
    exact hk _ _ hK
theorem ran_append {w w' : World} {ts : Array TypeId} {args : Array Value} {v : Value} (h : ∀ ty, (Builtin.append_ ts ty args).run P w = .ok v w') : ∀ ty cs, (builtin .append ts ty cs args).run P w = .ok (.value v) w' := by
  intro ty cs
  simp only [builtin, Sem.run_bind, h, Result.andThen_ok, Sem.run_pure]
theorem ran_copy {w w' : World} {ts : Array TypeId} {args : Array Value} {v : Value} (h : ∀ ty, (Builtin.copy_ ts ty args).run P w = .ok v w') : ∀ ty cs, (builtin .copy ts ty cs args).run P w = .ok (.value v) w' := by
  intro ty cs
  simp only [builtin, Sem.run_bind, h, Result.andThen_ok, Sem.run_pure]
theorem ran_clear {w w' : World} {ts : Array TypeId} {args : Array Value} {v : Value} (h : ∀ ty, (Builtin.clear_ ts ty args).run P w = .ok v w') : ∀ ty cs, (builtin .clear ts ty cs args).run P w = .ok (.value v) w' := by
  intro ty cs
  simp only [builtin, Sem.run_bind, h, Result.andThen_ok, Sem.run_pure]
end
end Go.DoorKit
