/-
Run equations for slices whose elements take one cell: append within the room, clear.
-/
import Derived.Test.YtamjclpopkfhmaaMapKit
import Derived.Deep.RegionLaw
import Derived.Maps.AppendAt
import Derived.Deep.OwnRows
import Derived.Lib.Hide
set_option linter.unusedVariables false
set_option linter.unusedSimpArgs false
namespace Go.NetKit
open Go.RowKit
theorem setRow_eq {w : World} {g : Nat} {old cs : Array Value} {t : TypeId} {fr : Nat × Nat} (h : bk w g = some (.cells old t fr)) : w.setRow g cs = setBk w g (.cells cs t fr) := by
  have hlt := bk_lt h
  have hv : w.heap[g] = .cells old t fr := (Array.getElem?_eq_some_iff.1 h).2
  unfold World.setRow setBk
  congr 1
  apply Array.ext
  · simp
  · intro i h1 h2
    rw [Array.getElem_modify, Array.getElem_setIfInBounds]
    split
    · rename_i e; subst e; simp [hv]
    · rfl

section
variable {P : Program}
/-- append(s[:i], s[j:j+m]...) of one row, elements of one cell, within the room. -/
theorem run_append_cut (w : World) {t ty e : TypeId} {inf : TypeInfo} (ht : P.underlying t = some (.slice e)) (hi : P.info? e = some inf) (hs : inf.size = 1)
    (g i m j c c2 : Nat) (cur : Array Value) (a : Addr) (hg : bk w g = some (.cells cur e (0, 0))) (ha : m = 0 ∨ a = ⟨g, j, none⟩) (hj : j + m ≤ cur.size) (hc : i + m ≤ c) (hcc : c ≤ cur.size)
    (h1 : ∀ k, j ≤ k → k < j + m → ∃ v, cur[k]? = some v ∧ v.oneCell' = true) :
    (Builtin.append_ #[t, t] ty #[.slice (some ⟨g, 0, none⟩) i c, .slice (some a) m c2]).run P w =
      .ok (.slice (some ⟨g, 0, none⟩) (i + m) c) (setBk w g (.cells (cur.toList.take i ++ (cur.toList.drop j).take m ++ cur.toList.drop (i + m)).toArray e (0, 0))) := by
  have hl : ((cur.toList.drop j).take m).length = m := by simp; omega
  have hn : ∀ (k : Nat) (u : Value), ((cur.toList.drop j).take m)[k]? = some u → k < m ∧ cur[j + k]? = some u := by
    intro k u hu
    rw [List.getElem?_take] at hu
    split at hu
    · rename_i hk
      rw [List.getElem?_drop] at hu
      exact ⟨hk, by simpa using hu⟩
    · cases hu
  have := run_append_room (P := P) w t ty e inf ht hi g i c cur hg a m c2 ((cur.toList.drop j).take m) (by rw [hl, hs, Nat.mul_one]) ?_ ?_ (by omega) (by rw [hl, hs]; omega)
  · rw [this, setRow_eq hg, hs, hl, Nat.mul_one]
  · intro k u hu
    obtain ⟨hk, hu⟩ := hn k u hu
    rcases ha with h0 | rfl
    · omega
    · rw [show (⟨g, j, none⟩ : Addr).add k = ⟨g, j + k, none⟩ from by unfold Addr.add; split <;> simp_all]
      rw [cell?_bk hg]; exact hu
  · intro u hu
    obtain ⟨k, hk, e⟩ := List.mem_iff_getElem.1 hu
    obtain ⟨hkm, hk2⟩ := hn k u (by rw [List.getElem?_eq_getElem hk, e])
    obtain ⟨v, hv, h⟩ := h1 (j + k) (by omega) (by omega)
    rw [hk2] at hv
    injection hv with hv
    rw [hv]; exact h

/-- clear(s[o:o+1]), elements of one cell. -/
theorem run_clear_one (w : World) {t ty e : TypeId} {inf : TypeInfo} {z : Value} (ht : P.underlying t = some (.slice e)) (hi : P.info? e = some inf) (hz : inf.zero = some z) (hz1 : z.cells = #[z]) (h1 : z.oneCell' = true)
    (g o c : Nat) (cur : Array Value) (hg : bk w g = some (.cells cur e (0, 0))) (ho : o < cur.size) :
    (Builtin.clear_ #[t] ty #[.slice (some ⟨g, o, none⟩) 1 c]).run P w = .ok (.tuple #[]) (setBk w g (.cells (cur.toList.take o ++ [z] ++ cur.toList.drop (o + 1)).toArray e (0, 0))) := by
  have hst := run_storeCells_at P g o e [z] 0 cur w hg (by simp; omega) (by simpa using h1)
  simp only [Nat.add_zero, List.length_singleton] at hst
  have hzc : (Builtin.zeroCells #[z] 1).toList = [z] := by simp [Builtin.zeroCells, Array.range]
  simp [Builtin.clear_, run_underlying ht, zeroValue, typeInfo, hi, hz, hz1, hzc, hst]
  rw [setRow_eq hg]

theorem setBk_alloc_new {w : World} {a b : Obj} : setBk (w.alloc a) w.heap.size b = w.alloc b := by
  have h : (w.heap.push a).setIfInBounds w.heap.size b = w.heap.push b := by
    apply Array.ext_getElem?
    intro i
    rw [Array.getElem?_setIfInBounds, Array.getElem?_push, Array.getElem?_push]
    by_cases h3 : w.heap.size = i
    · subst h3; simp
    · rw [if_neg h3, if_neg (fun e => h3 e.symm), if_neg (fun e => h3 e.symm)]
  show ({ w with heap := (w.heap.push a).setIfInBounds w.heap.size b } : World) = { w with heap := w.heap.push b }
  rw [h]
/-- copy(b, s), a text into a row of its length. -/
theorem run_copy_str (w : World) {t t2 ty e : TypeId} {inf : TypeInfo} (ht : P.underlying t = some (.slice e)) (hi : P.info? e = some inf)
    (g : Nat) (c : Nat) (cur : Array Value) (s : ByteArray) (hg : bk w g = some (.cells cur e (0, 0))) (hc : cur.size = s.size) :
    (Builtin.copy_ #[t, t2] ty #[.slice (some ⟨g, 0, none⟩) s.size c, .string s]).run P w = .ok (goInt s.size) (setBk w g (.cells (s.data.map fun b => .int .u8 b.toNat) e (0, 0))) := by
  have hl : (s.data.toList.map fun b => Value.int .u8 b.toNat).length = s.size := by rw [List.length_map]; simp
  have hst := run_storeCells_at P g 0 e (s.data.toList.map fun b => Value.int .u8 b.toNat) 0 cur w hg (by rw [hl, hc]; omega) (by
    intro v hv
    simp only [List.mem_map] at hv
    obtain ⟨b, _, rfl⟩ := hv; rfl)
  simp only [Nat.add_zero, Nat.zero_add, List.take_zero, List.nil_append, hl] at hst
  rw [List.drop_eq_nil_of_le (by simp; omega), List.append_nil] at hst
  have ht2 : List.take s.size (s.data.toList.map fun b => Value.int .u8 b.toNat) = s.data.toList.map fun b => Value.int .u8 b.toNat := List.take_of_length_le (by omega)
  simp [Builtin.copy_, run_underlying ht, Builtin.lenOf, Builtin.firstCells, Nat.min, run_sizeOf w hi, ht2, hst]
  rw [setRow_eq hg]
  have : (s.data.toList.map fun b => Value.int .u8 b.toNat).toArray = s.data.map fun b => Value.int .u8 b.toNat := by apply Array.ext'; simp
  rw [this]

/-- append(v, y) where v owns its row: y of one cell lies in a new block. -/
theorem run_append_push (w : World) {t e : TypeId} {z : Value} {bytes : Nat} (ht : P.underlying t = some (.slice e)) (hinfo : (P.info? e).map (fun i => (i.zero, i.size, i.bytes)) = some (some z, 1, bytes)) (hz : z.cells.size = 1)
    (v : Value) (n : Nat) (xs : List Value) (y : Value) (hown : w.ownsRow 0 e 1 v n xs) (h1 : y.oneCell' = true) (hn : n + 1 ≤ 1000000) (hb : bytes ≤ 1000000) :
    ∃ v' w', (∀ ty, (Builtin.append_ #[t, t] ty #[v, .slice (some ⟨w.heap.size, 0, none⟩) 1 1]).run P (w.alloc (.cells #[y] e)) = .ok v' w') ∧ w'.ownsRow 0 e 1 v' (n + 1) (xs ++ [y]) ∧
      Fr (fun k => v.ownBlock = some k) w w' ∧ (∀ k, v'.ownBlock = some k → v.ownBlock = some k ∨ w.heap.size ≤ k) := by
  obtain ⟨i, hi, hzz⟩ := Option.map_eq_some_iff.1 hinfo
  simp only [Prod.mk.injEq] at hzz
  obtain ⟨hz0, hz1, hz2⟩ := hzz
  have hown' : (w.alloc (.cells #[y] e)).ownsRow 0 e 1 v n xs := hown.alloc _
  have hbb : (n + 1) * bytes ≤ 140737488355328 := Nat.le_trans (Nat.mul_le_mul hn hb) (by omega)
  obtain ⟨v', w', hr, h2, h3, h4, h5⟩ := run_append_own_at (P := P) (w.alloc (.cells #[y] e)) 0 t 0 e i z 1 bytes ht hi hz0 hz1 hz2 hz (by omega) v n xs hown' ⟨w.heap.size, 0, none⟩ 1 1 [y] (by simp)
    (fun j u hu => by
      cases j with
      | zero =>
        simp at hu; subst hu
        have := bk_alloc_new (w := w) (o := .cells #[y] e)
        rw [show (⟨w.heap.size, 0, none⟩ : Addr).add 0 = ⟨w.heap.size, 0, none⟩ from rfl, cell?_bk this]; rfl
      | succ j => simp at hu) (by simpa using h1) (by simp only [maxLen]; omega) hbb (Nat.zero_le _)
  refine ⟨v', w', fun ty => by unfold Builtin.append_ at hr ⊢; exact hr, h2, ?_, ?_⟩
  · have hf : Fr (fun k => v.ownBlock = some k) (w.alloc (.cells #[y] e)) w' := (Fr.of_grown h3).weaken (fun k _ hk => hk.symm)
    exact ((Fr.refl _ w).alloc _).trans hf
  · intro k hk
    rcases h5 with h5 | h5
    · exact .inl (h5.symm.trans hk)
    · rw [h5] at hk; injection hk with hk; right; subst hk; simp

/-- A builtin, met in a region that draws (go_region_law), by its run. -/
theorem step_builtin {ops : Array Oper} {o : Oper} {a : Act} {w w' : World} {K : Act → World → Prop} {Q : Exit → Act → World → Prop} {E : Prop} {v : Value}
    (hg : o.guard = none) (b : Builtin) (xs : Array Operand) (ts : Array TypeId) (hop : o.op = Op.call { callee := Callee.builtin b, args := xs, argTypes := ts })
    (args : Array Value) (hargs : xs.map a.eval = args) (hrun : ∀ ty cs, (builtin b ts ty cs args).run P w = .ok (.value v) w') (hK : K (a.put o.dst v) w') :
    if Region.wanted o (yielded ops a.tmps) = true then Oper.wp P o a w K Q else E := by
  have hw : Region.wanted o (yielded ops a.tmps) = true := by simp [Region.wanted, hg]
  rw [if_pos hw]
  unfold Oper.wp
  simp [execOp, hop, resolve, invoke, hargs, hrun]
  exact hK
/-- .. in one that does not draw. -/
theorem wpList_builtin {ops : Array Oper} {rest : List Oper} {o : Oper} {a : Act} {w w' : World} {Q : Exit → Act → World → Prop} {v : Value}
    (hg : o.guard = none) (b : Builtin) (xs : Array Operand) (ts : Array TypeId) (hop : o.op = Op.call { callee := Callee.builtin b, args := xs, argTypes := ts })
    (args : Array Value) (hargs : xs.map a.eval = args) (hrun : ∀ ty cs, (builtin b ts ty cs args).run P w = .ok (.value v) w') (hK : wpList P ops Q rest (a.put o.dst v) w') :
    wpList P ops Q (o :: rest) a w :=
  wpList_plain hg fun K hk => by
    unfold Oper.wp
    simp [execOp, hop, resolve, invoke, hargs, hrun]
    exact hk _ _ hK
theorem ran_append {w w' : World} {ts : Array TypeId} {args : Array Value} {v : Value} (h : ∀ ty, (Builtin.append_ ts ty args).run P w = .ok v w') : ∀ ty cs, (builtin .append ts ty cs args).run P w = .ok (.value v) w' := by
  intro ty cs
  simp only [builtin, Sem.run_bind, h, Result.andThen_ok, Sem.run_pure]
theorem ran_copy {w w' : World} {ts : Array TypeId} {args : Array Value} {v : Value} (h : ∀ ty, (Builtin.copy_ ts ty args).run P w = .ok v w') : ∀ ty cs, (builtin .copy ts ty cs args).run P w = .ok (.value v) w' := by
  intro ty cs
  simp only [builtin, Sem.run_bind, h, Result.andThen_ok, Sem.run_pure]
theorem ran_clear {w w' : World} {ts : Array TypeId} {args : Array Value} {v : Value} (h : ∀ ty, (Builtin.clear_ ts ty args).run P w = .ok v w') : ∀ ty cs, (builtin .clear ts ty cs args).run P w = .ok (.value v) w' := by
  intro ty cs
  simp only [builtin, Sem.run_bind, h, Result.andThen_ok, Sem.run_pure]
end
end Go.NetKit
