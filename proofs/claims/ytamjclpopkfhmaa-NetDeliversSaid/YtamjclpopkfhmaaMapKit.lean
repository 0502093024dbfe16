import Derived.WalkKit
import Derived.WalkSpells
import Derived.WalkLawsBesides
import Derived.ChangeKeysEq
import Derived.MapKept
set_option linter.unusedVariables false
set_option linter.unusedSimpArgs false
namespace Go.NetKit
open Go.RowKit

/-! Blocks, told so that the walk's simp leaves them alone. -/
def bk (w : World) (n : Nat) : Option Obj := w.heap[n]?
def setBk (w : World) (r : Nat) (o : Obj) : World := { w with heap := w.heap.setIfInBounds r o }
theorem bk_lt {w : World} {n : Nat} {o : Obj} (h : bk w n = some o) : n < w.heap.size := (Array.getElem?_eq_some_iff.1 h).1
@[go_sem] theorem bk_alloc_lt {w : World} {o : Obj} {n : Nat} (h : n < w.heap.size) : bk (w.alloc o) n = bk w n := Below.heap_alloc w o n h
@[go_sem] theorem bk_alloc_new {w : World} {o : Obj} : bk (w.alloc o) w.heap.size = some o := heap_alloc_new w o
@[go_sem] theorem bk_drewN {w : World} {k n : Nat} : bk (w.drewN k) n = bk w n := rfl
@[go_sem] theorem bk_drew {w : World} {n : Nat} : bk w.drew n = bk w n := rfl
@[go_sem] theorem alloc_drewN (w : World) (k : Nat) (o : Obj) : (w.drewN k).alloc o = (w.alloc o).drewN k := rfl
@[go_sem] theorem bk_setCell_ne {w : World} {p : Addr} {v : Value} {n : Nat} (h : ¬ n = p.block) : bk (w.setCell p v) n = bk w n := Below.heap_setCell w p v n h
@[go_sem] theorem size_setBk {w : World} {r : Nat} {o : Obj} : (setBk w r o).heap.size = w.heap.size := by simp [setBk]
@[go_sem] theorem bk_setBk_ne {w : World} {r : Nat} {o : Obj} {n : Nat} (h : ¬ n = r) : bk (setBk w r o) n = bk w n := by
  simp [bk, setBk, Array.getElem?_setIfInBounds]; intro h'; exact absurd h'.symm h
@[go_sem] theorem bk_setBk {w : World} {r : Nat} {o : Obj} (h : r < w.heap.size) : bk (setBk w r o) r = some o := by
  simp [bk, setBk, h]
@[go_sem] theorem setBk_drewN {w : World} {r k : Nat} {o : Obj} : setBk (w.drewN k) r o = (setBk w r o).drewN k := rfl
@[go_sem] theorem setBk_drew {w : World} {r : Nat} {o : Obj} : setBk w.drew r o = (setBk w r o).drew := rfl
@[go_sem] theorem cell?_setBk {w : World} {r : Nat} {o : Obj} {b i : Nat} (h : ¬ b = r) : (setBk w r o).cell? ⟨b, i, none⟩ = w.cell? ⟨b, i, none⟩ :=
  World.cell?_of_block (w := w) (bk_setBk_ne h)
@[go_sem] theorem frozen?_setBk {w : World} {r : Nat} {o : Obj} {b i : Nat} (h : ¬ b = r) : (setBk w r o).frozen? ⟨b, i, none⟩ = w.frozen? ⟨b, i, none⟩ :=
  World.frozen?_of_block (w := w) (bk_setBk_ne h)
theorem cell?_bk {w : World} {b : Nat} {c : Array Value} {t : TypeId} {fz : Nat × Nat} (h : bk w b = some (.cells c t fz)) (i : Nat) : w.cell? ⟨b, i, none⟩ = c[i]? := by
  unfold bk at h; simp [World.cell?, h]
theorem frozen?_bk {w : World} {b : Nat} {c : Array Value} {t : TypeId} (h : bk w b = some (.cells c t (0, 0))) (i : Nat) : w.frozen? ⟨b, i, none⟩ = false := by
  unfold bk at h; simp [World.frozen?, h]
theorem bk_setCell {w : World} {b i : Nat} {c : Array Value} {t : TypeId} {fz : Nat × Nat} {v : Value} (h : bk w b = some (.cells c t fz)) : bk (w.setCell ⟨b, i, none⟩ v) b = some (.cells (c.setIfInBounds i v) t fz) := by
  unfold bk at *; simp [World.setCell, Array.getElem?_modify, h]

/-- But for the blocks of S, w' is as w was, and new blocks. -/
structure Fr (S : Nat → Prop) (w w' : World) : Prop where
  os : w'.os = w.os
  tape : w'.tape = w.tape
  output : w'.output = w.output
  size : w.heap.size ≤ w'.heap.size
  block : ∀ k, k < w.heap.size → ¬ S k → bk w' k = bk w k
theorem Fr.refl (S : Nat → Prop) (w : World) : Fr S w w := ⟨rfl, rfl, rfl, Nat.le_refl _, fun _ _ _ => rfl⟩
theorem Fr.trans {S : Nat → Prop} {a b c : World} (h : Fr S a b) (k : Fr S b c) : Fr S a c :=
  ⟨k.os.trans h.os, k.tape.trans h.tape, k.output.trans h.output, Nat.le_trans h.size k.size, fun i hi hs => (k.block i (Nat.lt_of_lt_of_le hi h.size) hs).trans (h.block i hi hs)⟩
theorem Fr.weaken {S T : Nat → Prop} {a b : World} (h : Fr S a b) (hs : ∀ k, k < a.heap.size → S k → T k) : Fr T a b :=
  ⟨h.os, h.tape, h.output, h.size, fun i hi hn => h.block i hi (fun hk => hn (hs i hi hk))⟩
/-- Two steps, of which the second one writes into what is S or new. -/
theorem Fr.trans' {S T : Nat → Prop} {a b c : World} (h : Fr S a b) (k : Fr T b c) (hs : ∀ k, k < a.heap.size → T k → S k) : Fr S a c :=
  ⟨k.os.trans h.os, k.tape.trans h.tape, k.output.trans h.output, Nat.le_trans h.size k.size, fun i hi hn => (k.block i (Nat.lt_of_lt_of_le hi h.size) (fun hk => hn (hs i hi hk))).trans (h.block i hi hn)⟩
theorem Fr.drew {S : Nat → Prop} {a b : World} (h : Fr S a b) : Fr S a b.drew := ⟨h.os, h.tape, h.output, h.size, h.block⟩
theorem Fr.drewN {S : Nat → Prop} {a b : World} (h : Fr S a b) (n : Nat) : Fr S a (b.drewN n) := ⟨h.os, h.tape, h.output, h.size, h.block⟩
theorem Fr.alloc {S : Nat → Prop} {a b : World} (h : Fr S a b) (o : Obj) : Fr S a (b.alloc o) :=
  h.trans ⟨rfl, rfl, rfl, by simp, fun k hk _ => bk_alloc_lt hk⟩
theorem Fr.setCell {S : Nat → Prop} {a b : World} (h : Fr S a b) {p : Addr} (hp : p.block < a.heap.size → S p.block) (v : Value) : Fr S a (b.setCell p v) :=
  ⟨h.os, h.tape, h.output, by simpa [World.setCell] using h.size, fun i hi hn => (bk_setCell_ne (fun e => hn (by subst e; exact hp hi))).trans (h.block i hi hn)⟩
theorem Fr.setBk {S : Nat → Prop} {a b : World} (h : Fr S a b) {r : Nat} (hp : r < a.heap.size → S r) (o : Obj) : Fr S a (setBk b r o) :=
  ⟨h.os, h.tape, h.output, by simpa [Go.NetKit.setBk] using h.size, fun i hi hn => (bk_setBk_ne (fun e => hn (by subst e; exact hp hi))).trans (h.block i hi hn)⟩
theorem Fr.below {S : Nat → Prop} {a b : World} (h : Fr S a b) (B : Nat) (hB : B ≤ a.heap.size) (hs : ∀ k, S k → B ≤ k) : Below B a b :=
  ⟨h.os, h.tape, h.output, h.size, fun k hk => h.block k (Nat.lt_of_lt_of_le hk hB) (fun hk' => absurd (hs k hk') (by omega))⟩
theorem Fr.of_below {a b : World} (h : Below a.heap.size a b) (S : Nat → Prop) : Fr S a b := ⟨h.os, h.tape, h.output, h.size, fun k hk _ => h.block k hk⟩
theorem Fr.of_grown {a b : World} {row : Option Nat} (h : a.grownBy b row) : Fr (fun k => some k = row) a b := ⟨h.os, h.tape, h.output, h.size, fun k hk hn => h.block k hk (fun e => hn e)⟩
theorem Fr.bk {S : Nat → Prop} {a b : World} (h : Fr S a b) {k : Nat} {o : Obj} (hk : bk a k = some o) (hn : ¬ S k) : Go.NetKit.bk b k = some o := (h.block k (bk_lt hk) hn).trans hk

/-! Maps whose keys are pairs of ints. -/
def key2 (a b : Int) : Value := .agg #[.int .i64 a, .int .i64 b]
structure Ent where
  a : Int
  b : Int
  v : Value
  born : Nat
def Ent.toM (e : Ent) : MapEntry := { key := key2 e.a e.b, val := e.v, born := e.born }
def ents (l : List Ent) : Array MapEntry := (l.map Ent.toM).toArray
def lk (a b : Int) : List Ent → Option Value
  | [] => none
  | e :: l => if a = e.a ∧ b = e.b then some e.v else lk a b l
def idx (a b : Int) : List Ent → Nat → Option (Nat × Value)
  | [], _ => none
  | e :: l, i => if a = e.a ∧ b = e.b then some (i, e.v) else idx a b l (i + 1)
/-- What a store of v at (a, b) leaves. -/
def put (a b : Int) (v : Value) (clk : Nat) : List Ent → List Ent
  | [] => [⟨a, b, v, clk⟩]
  | e :: l => if a = e.a ∧ b = e.b then ⟨a, b, v, e.born⟩ :: l else e :: put a b v clk l

section
variable {P : Program} {kt e : TypeId} {i : TypeInfo}

theorem run_part1 (w : World) (he : P.underlying e = some (.int .i64)) (xs : Array Value) (k : Nat) (v : Value) (h : xs[k]? = some v) :
    (part e xs k).run P w = .ok v w := by
  simp [part, isAgg, run_underlying he, h]

theorem run_equalIn_i64 (w : World) (he : P.underlying e = some (.int .i64)) (d : Nat) (x y : Int) :
    (Op.equalIn (d + 1) e (.int .i64 x) (.int .i64 y)).run P w = .ok (x == y) w := by
  simp [Op.equalIn, run_underlying he]

theorem run_equalIn_key2 (w : World) (ha : P.underlying kt = some (.array 2 e)) (he : P.underlying e = some (.int .i64)) (hi : P.info? e = some i) (hs : P.cellsOf e = 1) (d : Nat) (a b c f : Int) :
    (Op.equalIn (d + 2) kt (key2 a b) (key2 c f)).run P w = .ok (a == c && b == f) w := by
  unfold key2
  rw [show d + 2 = (d + 1) + 1 from rfl, run_equalIn_array w (d + 1) _ _ ha hi, hs]
  simp only [List.range, List.range.loop, Op.eqItems, Sem.run_bind]
  rw [run_part1 w he _ _ (.int .i64 a) rfl]
  simp only [Result.andThen_ok]
  rw [run_part1 w he _ _ (.int .i64 c) rfl]
  simp only [Result.andThen_ok, run_equalIn_i64 w he]
  cases hac : (a == c)
  · simp
  · simp only [Bool.true_and, Bool.not_true, Bool.false_eq_true, if_false, Sem.run_bind]
    rw [run_part1 w he _ _ (.int .i64 b) rfl]
    simp only [Result.andThen_ok]
    rw [run_part1 w he _ _ (.int .i64 f) rfl]
    simp only [Result.andThen_ok, run_equalIn_i64 w he]
    cases hbf : (b == f) <;> simp

theorem run_checkKey2 (w : World) (ha : P.underlying kt = some (.array 2 e)) (he : P.underlying e = some (.int .i64)) (hi : P.info? e = some i) (hs : P.cellsOf e = 1) (em : Bool) (n : Nat) (a b : Int) :
    (Instr.checkKey em (n + 2) kt (key2 a b)).run P w = .ok () w := by
  have hone : ∀ x : Int, (Instr.checkKey em (n + 1) e (.int .i64 x)).run P w = .ok () w := fun x => by
    simp [Instr.checkKey, run_underlying he]
  unfold key2 Instr.checkKey
  simp only [Sem.run_bind, run_underlying ha, Result.andThen_ok]
  simp only [Std.Legacy.Range.forIn_eq_forIn_range', Std.Legacy.Range.size, Nat.sub_zero, Nat.add_one_sub_one, Nat.div_one]
  have p0 := run_part1 w he #[.int .i64 a, .int .i64 b] 0 (.int .i64 a) rfl
  have p1 := run_part1 w he #[.int .i64 a, .int .i64 b] 1 (.int .i64 b) rfl
  simp [List.range', run_sizeOf w hi, hs, p0, p1, hone]

theorem run_findAsking2 (w : World) (ha : P.underlying kt = some (.array 2 e)) (he : P.underlying e = some (.int .i64)) (hi : P.info? e = some i) (hs : P.cellsOf e = 1) (a b : Int) :
    ∀ (l : List Ent) (n : Nat), (Instr.findAsking kt (key2 a b) (l.map Ent.toM) n).run P w = .ok (idx a b l n) w := by
  intro l
  induction l with
  | nil => intro n; rfl
  | cons x l ih =>
    intro n
    simp only [List.map_cons, Instr.findAsking, Sem.run_bind, Op.equal, Op.maxDepth]
    rw [show (x.toM).key = key2 x.a x.b from rfl, run_equalIn_key2 w ha he hi hs 9998 a b x.a x.b]
    simp only [Result.andThen_ok, idx]
    by_cases h : a = x.a ∧ b = x.b
    · rw [if_pos h, if_pos (by simp [h.1, h.2])]; rfl
    · rw [if_neg h, if_neg (by simpa using h)]; exact ih (n + 1)

theorem run_findKey2 (w : World) (ha : P.underlying kt = some (.array 2 e)) (he : P.underlying e = some (.int .i64)) (hi : P.info? e = some i) (hs : P.cellsOf e = 1) (a b : Int) (l : List Ent) :
    (Instr.findKey kt (key2 a b) (ents l).toList).run P w = .ok (idx a b l 0) w := by
  unfold Instr.findKey
  simp only [Sem.run_bind, run_underlying ha, Result.andThen_ok]
  cases l with
  | nil => simp [ents, Instr.findNow, idx]
  | cons x l =>
    have : Instr.findNow (.array 2 e) (key2 a b) (ents (x :: l)).toList 0 = none := by
      simp [ents, Instr.findNow, Instr.sameNow]
    rw [this]
    simpa [ents] using run_findAsking2 w ha he hi hs a b (x :: l) 0

theorem idx_lk (a b : Int) : ∀ (l : List Ent) (n : Nat), (idx a b l n).map (·.2) = lk a b l
  | [], _ => rfl
  | x :: l, n => by
    unfold idx lk
    split
    · rfl
    · exact idx_lk a b l (n + 1)

/-- m[[2]int{a, b}]. -/
theorem run_lookup2 (w : World) {mt et : TypeId} {z : TypeInfo} {zv : Value} (hm : P.underlying mt = some (.map kt et)) (ha : P.underlying kt = some (.array 2 e)) (he : P.underlying e = some (.int .i64)) (hi : P.info? e = some i) (hs : P.cellsOf e = 1)
    (hz : P.info? et = some z) (hzv : z.zero = some zv) (r clk : Nat) (l : List Ent) (hb0 : bk w r = some (.map (ents l) clk)) (a b : Int) :
    (Instr.lookup mt (.map (some r)) (key2 a b) false).run P w = .ok ((lk a b l).getD zv) w := by
  have hb : w.heap[r]? = some (.map (ents l) clk) := hb0
  have hl := idx_lk a b l 0
  simp only [Instr.lookup, Sem.run_bind, run_underlying hm, Result.andThen_ok, MapKept.run_getObj_map hb, Sem.run_pure]
  rw [run_checkKey2 w ha he hi hs]
  simp only [Result.andThen_ok]
  rw [run_findKey2 w ha he hi hs]
  simp only [Result.andThen_ok]
  cases hx : idx a b l 0 with
  | none =>
    rw [hx] at hl
    rw [← hl]
    simp [zeroValue, typeInfo, hz, hzv]
  | some p =>
    rw [hx] at hl
    rw [← hl]
    obtain ⟨j, v⟩ := p
    simp

theorem sameBits_key2 (a b : Int) : Instr.sameBits 10000 (key2 a b) (key2 a b) = true := by
  unfold key2
  rw [show (10000 : Nat) = 9999 + 1 from rfl]
  simp [Instr.sameBits]

theorem idx_le (a b : Int) : ∀ (l : List Ent) (n j : Nat) (v : Value), idx a b l n = some (j, v) → n ≤ j
  | [], _, _, _, h => by simp [idx] at h
  | x :: l, n, j, v, h => by
    unfold idx at h
    split at h
    · injection h with h; injection h with h1 h2; omega
    · have := idx_le a b l (n + 1) j v h; omega

theorem put_found (a b : Int) (u : Value) (clk : Nat) : ∀ (l : List Ent) (n j : Nat) (v : Value), idx a b l n = some (j, v) →
    (l.map Ent.toM).modify (j - n) (fun e => { e with key := key2 a b, val := u }) = (put a b u clk l).map Ent.toM ∧ ∃ x, l[j - n]? = some x ∧ x.a = a ∧ x.b = b
  | [], _, _, _, h => by simp [idx] at h
  | x :: l, n, j, v, h => by
    unfold idx at h
    unfold put
    split at h
    · rename_i hx
      injection h with h; injection h with h1 h2
      subst h1
      rw [if_pos hx, Nat.sub_self]
      exact ⟨rfl, x, rfl, hx.1.symm, hx.2.symm⟩
    · rename_i hx
      have hle := idx_le a b l (n + 1) j v h
      obtain ⟨h1, y, h2, h3⟩ := put_found a b u clk l (n + 1) j v h
      rw [if_neg hx, show j - n = (j - (n + 1)) + 1 from by omega]
      refine ⟨?_, y, by simpa using h2, h3⟩
      rw [List.map_cons, List.map_cons, ← h1]
      rfl

theorem put_new (a b : Int) (u : Value) (clk : Nat) : ∀ (l : List Ent) (n : Nat), idx a b l n = none → put a b u clk l = l ++ [⟨a, b, u, clk⟩]
  | [], _, _ => rfl
  | x :: l, n, h => by
    unfold idx at h
    unfold put
    split at h
    · exact absurd h (by simp)
    · rename_i hx
      rw [if_neg hx, put_new a b u clk l (n + 1) h]; rfl

theorem lk_put (a b c f : Int) (u : Value) (clk : Nat) : ∀ l : List Ent, lk c f (put a b u clk l) = if c = a ∧ f = b then some u else lk c f l
  | [] => by
    unfold put; rfl
  | x :: l => by
    unfold put
    split
    · rename_i hx
      unfold lk
      simp only
      by_cases h : c = a ∧ f = b
      · rw [if_pos h, if_pos h]
      · rw [if_neg h, if_neg h, if_neg (fun hc => h ⟨hc.1.trans hx.1.symm, hc.2.trans hx.2.symm⟩)]
    · rename_i hx
      unfold lk
      rw [lk_put a b c f u clk l]
      by_cases h : c = a ∧ f = b
      · rw [if_pos h, if_neg (fun hc => hx ⟨h.1.symm.trans hc.1, h.2.symm.trans hc.2⟩), if_pos h]
      · rw [if_neg h, if_neg h]

/-- m[[2]int{a, b}] = v. -/
theorem run_update2 (w : World) {mt et : TypeId} (hm : P.underlying mt = some (.map kt et)) (ha : P.underlying kt = some (.array 2 e)) (he : P.underlying e = some (.int .i64)) (hi : P.info? e = some i) (hs : P.cellsOf e = 1)
    (r clk : Nat) (l : List Ent) (hb0 : bk w r = some (.map (ents l) clk)) (a b : Int) (v : Value) :
    (Instr.mapUpdate mt (.map (some r)) (key2 a b) v).run P w = .ok () (setBk w r (.map (ents (put a b v clk l)) (if (lk a b l).isSome then clk else clk + 1))) := by
  have hb : w.heap[r]? = some (.map (ents l) clk) := hb0
  have hl := idx_lk a b l 0
  simp only [Instr.mapUpdate, Sem.run_bind, run_underlying hm, Result.andThen_ok, MapKept.run_getObj_map hb]
  rw [run_checkKey2 w ha he hi hs]
  simp only [Result.andThen_ok]
  rw [run_findKey2 w ha he hi hs]
  simp only [Result.andThen_ok]
  cases hx : idx a b l 0 with
  | none =>
    rw [hx] at hl
    rw [← hl, put_new a b v clk l 0 hx]
    simp [MapKept.run_setObj_map _ hb, ents, Ent.toM, setBk]
  | some p =>
    rw [hx] at hl
    rw [← hl]
    obtain ⟨j, u⟩ := p
    obtain ⟨h1, x, h2, h3, h4⟩ := put_found a b v clk l 0 j u hx
    simp only [Nat.sub_zero] at h1 h2
    have hj : (ents l)[j]? = some x.toM := by simp [ents, h2]
    have hk : x.toM.key = key2 a b := by rw [← h3, ← h4]; rfl
    simp only [hj, Option.map_some, Option.getD_some, hk, Instr.keyThatStays, sameBits_key2, if_true, Sem.run_bind, Sem.run_pure, Result.andThen_ok]
    rw [MapKept.run_setObj_map _ hb]
    have : (ents l).modify j (fun e => { e with key := key2 a b, val := v }) = ents (put a b v clk l) := by
      apply Array.ext'
      rw [Array.toList_modify]
      simpa [ents] using h1
    simp [this, setBk]
end

end Go.NetKit
