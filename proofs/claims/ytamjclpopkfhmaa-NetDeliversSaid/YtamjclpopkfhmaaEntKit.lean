/-
m[k] op= v and m[k], .. = v: the entry that is there or made, and the store into it.
-/
import Derived.Test.YtamjclpopkfhmaaMapKit
set_option linter.unusedVariables false
set_option linter.unusedSimpArgs false
namespace Go.NetKit
open Go.RowKit

/-- The entry of (a, b) is there, or made with z. -/
def ent (a b : Int) (z : Value) (clk : Nat) (l : List Ent) : List Ent := if (lk a b l).isSome then l else l ++ [⟨a, b, z, clk⟩]
def bornAt (a b : Int) (clk : Nat) : List Ent → Nat
  | [] => clk
  | e :: l => if a = e.a ∧ b = e.b then e.born else bornAt a b clk l
def Borns (C : List Ent) (clk : Nat) : Prop := (∀ e ∈ C, e.born < clk) ∧ (C.map (·.born)).Nodup

theorem idx_born (a b : Int) (clk : Nat) : ∀ (l : List Ent) (n j : Nat) (v : Value), idx a b l n = some (j, v) → ∃ x, l[j - n]? = some x ∧ x.born = bornAt a b clk l ∧ x.v = v ∧ x.a = a ∧ x.b = b ∧ n ≤ j
  | [], _, _, _, h => by simp [idx] at h
  | x :: l, n, j, v, h => by
    unfold idx at h
    unfold bornAt
    split at h
    · rename_i hx
      injection h with h; injection h with h1 h2
      subst h1; subst h2
      rw [if_pos hx, Nat.sub_self]
      exact ⟨x, rfl, rfl, rfl, hx.1.symm, hx.2.symm, Nat.le_refl _⟩
    · rename_i hx
      obtain ⟨y, h1, h2, h3, h4, h5, h6⟩ := idx_born a b clk l (n + 1) j v h
      rw [if_neg hx, show j - n = (j - (n + 1)) + 1 from by omega]
      exact ⟨y, by simpa using h1, h2, h3, h4, h5, by omega⟩
theorem born_none (a b : Int) (clk : Nat) : ∀ (l : List Ent), lk a b l = none → bornAt a b clk l = clk
  | [], _ => rfl
  | x :: l, h => by
    unfold lk at h
    unfold bornAt
    split at h
    · cases h
    · rename_i hx; rw [if_neg hx]; exact born_none a b clk l h

section
variable {P : Program} {kt e : TypeId} {i : TypeInfo}
theorem run_mapEntry2 (w : World) {mt et : TypeId} {z : TypeInfo} {zv : Value} (hm : P.underlying mt = some (.map kt et)) (ha : P.underlying kt = some (.array 2 e)) (he : P.underlying e = some (.int .i64)) (hi : P.info? e = some i) (hs : P.cellsOf e = 1)
    (hz : P.info? et = some z) (hzv : z.zero = some zv) (r clk : Nat) (l : List Ent) (hb0 : bk w r = some (.map (ents l) clk)) (a b : Int) :
    (Instr.mapEntry mt (.map (some r)) (key2 a b)).run P w = .ok (.tuple #[(lk a b l).getD zv, goInt (bornAt a b clk l)]) (setBk w r (.map (ents (ent a b zv clk l)) (if (lk a b l).isSome then clk else clk + 1))) := by
  have hb : w.heap[r]? = some (.map (ents l) clk) := hb0
  have hl := idx_lk a b l 0
  simp only [Instr.mapEntry, Sem.run_bind, run_underlying hm, Result.andThen_ok, MapKept.run_getObj_map hb]
  rw [run_checkKey2 w ha he hi hs]
  simp only [Result.andThen_ok]
  rw [run_findKey2 w ha he hi hs]
  simp only [Result.andThen_ok]
  cases hx : idx a b l 0 with
  | none =>
    rw [hx] at hl
    have hn : lk a b l = none := hl.symm
    rw [born_none a b clk l hn, hn]
    simp [zeroValue, typeInfo, hz, hzv, MapKept.run_setObj_map _ hb, ents, Ent.toM, setBk, ent, hn]
  | some p =>
    obtain ⟨j, u⟩ := p
    rw [hx] at hl
    have hn : lk a b l = some u := hl.symm
    obtain ⟨x, h2, h3, h4, h5, h6, _⟩ := idx_born a b clk l 0 j u hx
    simp only [Nat.sub_zero] at h2
    have hj : (ents l)[j]? = some x.toM := by simp [ents, h2]
    have hk : x.toM.key = key2 a b := by rw [← h5, ← h6]; rfl
    have hbn : x.toM.born = bornAt a b clk l := h3
    have hmod : (ents l).modify j (fun e => { e with key := key2 a b }) = ents l := by
      apply Array.ext_getElem?
      intro k
      rw [Array.getElem?_modify]
      by_cases hkk : j = k
      · subst hkk
        rw [if_pos rfl, hj]
        simp only [Option.map_some, ← hk]
      · rw [if_neg hkk]
    simp only [hj, Option.map_some, Option.getD_some, hk, hbn, Instr.keyThatStays, sameBits_key2, if_true, Sem.run_bind, Sem.run_pure, Result.andThen_ok]
    rw [MapKept.run_setObj_map _ hb]
    simp [hmod, hn, ent, setBk]

theorem run_entryStore2 (w : World) {mt : TypeId} (r clk : Nat) (l : List Ent) (hb0 : bk w r = some (.map (ents l) clk)) (hB : (l.map (·.born)).Nodup) (a b : Int) (v : Value) (hp : (lk a b l).isSome = true) (c0 : Nat) :
    (Instr.entryStore mt (.map (some r)) (goInt (bornAt a b c0 l)) v).run P w = .ok () (setBk w r (.map (ents (put a b v c0 l)) clk)) := by
  have hb : w.heap[r]? = some (.map (ents l) clk) := hb0
  have hl := idx_lk a b l 0
  cases hx : idx a b l 0 with
  | none => rw [hx] at hl; rw [← hl] at hp; cases hp
  | some p =>
    obtain ⟨j, u⟩ := p
    obtain ⟨x, h2, h3, h4, h5, h6, _⟩ := idx_born a b c0 l 0 j u hx
    simp only [Nat.sub_zero] at h2
    have hjl : j < l.length := by
      rcases Nat.lt_or_ge j l.length with h | h
      · exact h
      · rw [List.getElem?_eq_none h] at h2; cases h2
    have hf : (ents l).findIdx? (fun e => (e.born : Int) == ((bornAt a b c0 l : Nat) : Int)) = some j := by
      rw [← h3]
      unfold ents
      rw [List.findIdx?_toArray, List.findIdx?_map, List.findIdx?_eq_some_iff_getElem]
      have hxl : l[j] = x := by rw [List.getElem?_eq_getElem hjl] at h2; injection h2
      refine ⟨hjl, by simp [hxl, Ent.toM], ?_⟩
      intro k hk
      have hne := List.pairwise_iff_getElem.1 hB k j (by simp; omega) (by simpa using hjl) hk
      simp only [List.getElem_map, hxl] at hne
      simp [Ent.toM]
      omega
    obtain ⟨h7, _⟩ := put_found a b v c0 l 0 j u hx
    have hmod : (ents l).modify j (fun e => { e with val := v }) = ents (put a b v c0 l) := by
      apply Array.ext'
      rw [Array.toList_modify]
      simp only [Nat.sub_zero] at h7
      have h8 : (ents l).toList = l.map Ent.toM := by simp [ents]
      have h9 : (ents (put a b v c0 l)).toList = (put a b v c0 l).map Ent.toM := by simp [ents]
      rw [h8, h9, ← h7]
      have hxl : l[j] = x := by rw [List.getElem?_eq_getElem hjl] at h2; injection h2
      apply List.ext_getElem?
      intro k
      rw [List.getElem?_modify, List.getElem?_modify]
      by_cases hkk : j = k
      · subst hkk
        have hk : x.toM.key = key2 a b := by rw [← h5, ← h6]; rfl
        rw [List.getElem?_map, h2]
        simp [← hk]
      · simp only [if_neg hkk]
    simp only [Instr.entryStore, Sem.run_bind, MapKept.run_getObj_map hb, Result.andThen_ok]
    simp only [goInt, asInt, asIntOf, Sem.run_bind, Sem.run_pure, Result.andThen_ok, hf]
    rw [MapKept.run_setObj_map _ hb, hmod]; rfl
end
end Go.NetKit
