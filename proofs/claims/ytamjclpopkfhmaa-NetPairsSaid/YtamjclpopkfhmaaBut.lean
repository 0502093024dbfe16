/-
NetPairs: the plain law, and rows one of which is struck.
-/
import Derived.Test.YtamjclpopkfhmaaCuts
set_option linter.unusedVariables false
set_option linter.unusedSimpArgs false
namespace Go.Proofs.Ytamjclpopkfhmaa
open Go.RowKit Go.NetKit

/-- Two networks that differ in one queue alone. -/
structure But (x y : Int) (N M : NetS) : Prop where
  n3 : N.nodes = 3
  m3 : M.nodes = 3
  q : ∀ a b, ¬ (a = x ∧ b = y) → N.q a b = M.q a b
  cut : N.cut = M.cut

theorem But.ok {x y : Int} {N M : NetS} (h : But x y N M) (a b : Int) : N.ok a b = M.ok a b := by
  unfold NetS.ok; rw [h.n3, h.m3]

theorem setq_q (N : NetS) (a b c d : Int) (l : List ByteArray) : (N.setq a b l).q c d = if c = a ∧ d = b then l else N.q c d := rfl
theorem But.setq1 {x y : Int} {N M : NetS} (h : But x y N M) (l : List ByteArray) : But x y (N.setq x y l) M :=
  ⟨h.n3, h.m3, fun a b hab => by rw [setq_q, if_neg hab]; exact h.q a b hab, h.cut⟩
theorem But.setq2 {x y : Int} {N M : NetS} (h : But x y N M) (a b : Int) (l l' : List ByteArray) (he : ¬ (a = x ∧ b = y) → l = l') : But x y (N.setq a b l) (M.setq a b l') := by
  refine ⟨h.n3, h.m3, fun c d hcd => ?_, h.cut⟩
  rw [setq_q, setq_q]
  by_cases hc : c = a ∧ d = b
  · rw [if_pos hc, if_pos hc]
    exact he (fun e => hcd ⟨hc.1.trans e.1, hc.2.trans e.2⟩)
  · rw [if_neg hc, if_neg hc]; exact h.q c d hcd
theorem But.setc {x y : Int} {N M : NetS} (h : But x y N M) (a b : Int) (off : Bool) : But x y (N.setc a b off) (M.setc a b off) :=
  ⟨h.n3, h.m3, h.q, by unfold NetS.setc; rw [h.cut]⟩

/-- An operation on that queue, by the first network alone; a cut by none. -/
theorem But.one {N M : NetS} (o : OpS) (h : But o.a o.b N M) (hk : o.kind ≠ 4) : But o.a o.b (o.run N).1 M := by
  unfold OpS.run NetS.send NetS.deliver NetS.lose NetS.spoil NetS.drop
  repeat' split
  all_goals first
    | exact h
    | exact h.setq1 _
    | (exfalso; exact hk (by assumption))
/-- An operation by both, on another queue, or a cut. -/
theorem But.both {x y : Int} {N M : NetS} (o : OpS) (h : But x y N M) (hk : o.kind = 4 ∨ ¬ (o.a = x ∧ o.b = y)) : But x y (o.run N).1 (o.run M).1 := by
  by_cases h4 : o.kind = 4
  · have h0 : ¬ (4 : Int) = 0 := by omega
    have h1 : ¬ (4 : Int) = 1 := by omega
    have h2 : ¬ (4 : Int) = 2 := by omega
    have h3 : ¬ (4 : Int) = 3 := by omega
    unfold OpS.run NetS.cutS
    rw [h4, ← h.ok o.a o.b]
    simp only [if_neg h0, if_neg h1, if_neg h2, if_neg h3, if_true]
    split
    · exact h
    · exact h.setc _ _ _
  · have hn : ¬ (o.a = x ∧ o.b = y) := hk.resolve_left h4
    have hq := h.q o.a o.b hn
    unfold OpS.run NetS.send NetS.deliver NetS.lose NetS.spoil NetS.drop NetS.has NetS.msg
    simp only [← h.ok o.a o.b, ← h.cut, ← hq]
    repeat' split
    all_goals first
      | exact h
      | exact h.setq2 _ _ _ _ (fun _ => rfl)
      | (exfalso; exact h4 (by assumption))

theorem allRow_but {x y : Nat} {N M : NetS} (h : But x y N M) (hx : x < 3) (hy : y < 3) : (allRows N 9).set (3 * x + y) [] = (allRows M 9).set (3 * x + y) [] := by
  apply List.ext_getElem
  · simp [allRows_length]
  · intro i h1 h2
    have hi : i < 9 := by simpa [allRows_length] using h1
    rw [List.getElem_set, List.getElem_set]
    split
    · rfl
    · rename_i hne
      unfold allRows
      simp only [List.getElem_map, List.getElem_range]
      unfold allRow
      split
      · rfl
      · rw [h.q]
        rintro ⟨e1, e2⟩
        have := Int.ofNat_inj.1 e1
        have := Int.ofNat_inj.1 e2
        omega

/-- A store into one row of rows leaves another one. -/
theorem RowsM.other {w wr : World} {S : Nat → Prop} {V : Value} {rows : List (List ByteArray)} (h : RowsM w wr S V rows) {b : Nat} {c : Array Value} (hb : bk wr b = some (.cells c 46)) (hne : ¬ V.ownBlock = some b) (j : Nat) (v : Value) : RowsM w (wr.setCell ⟨b, j, none⟩ v) S V rows := by
  have hf : Fr (fun k => k = b) wr (wr.setCell ⟨b, j, none⟩ v) := (Fr.refl (fun k => k = b) wr).setCell (p := ⟨b, j, none⟩) (fun _ => rfl) _
  obtain ⟨vs, h1, h2, h3⟩ := h
  refine ⟨vs, h1, ⟨ownsRow_fr h2.own hf (fun k hk e => hne (by rw [hk, e])), fun k hk => ⟨(h2.new k hk).1, (h2.new k hk).2.1, Nat.lt_of_lt_of_le (h2.new k hk).2.2 hf.size⟩⟩, fun i hi => ?_⟩
  obtain ⟨A, c', e, hm⟩ := h3 i hi
  refine ⟨A, c', e, ⟨ownsRow_fr hm.own hf (fun k hk e2 => ?_), fun k hk => ⟨(hm.new k hk).1, (hm.new k hk).2.1, Nat.lt_of_lt_of_le (hm.new k hk).2.2 hf.size⟩⟩⟩
  subst e2
  rcases hm.own.2 with ⟨h0, _⟩ | ⟨g, cap, cur, hv, _, hh, _⟩
  · rw [h0] at hk; cases hk
  · rw [hv] at hk; injection hk with hk; subst hk
    have := hb.symm.trans hh
    injection this with this; injection this with _ h2; cases h2

/-- .. and strikes the row it is made into. -/
theorem RowsM.strike {w wr : World} {S : Nat → Prop} {A : Option Addr} {n c : Nat} {rows : List (List ByteArray)} (h : RowsM w wr S (.slice A n c) rows) (hn : n = rows.length) (j : Nat) (hj : j < n) :
    ∃ b cur, A = some ⟨b, 0, none⟩ ∧ bk wr b = some (.cells cur 46 (0, 0)) ∧ j < cur.size ∧ w.heap.size ≤ b ∧ b < wr.heap.size ∧ (∃ B m c', cur[j]? = some (.slice B m c')) ∧ RowsM w (wr.setCell ⟨b, j, none⟩ (.slice none 0 0)) S (.slice A n c) (rows.set j []) := by
  subst hn
  obtain ⟨vs, h1, h2, h3⟩ := h
  have ho := h2.own
  rcases ho.2 with ⟨h0, hx⟩ | ⟨g, cap, cur, hv, _, hh, hnc, hcm, hcs, htk⟩
  · rw [hx] at h1; rw [← h1] at hj; exact absurd hj (by simp)
  · injection hv with e1 e2 e3
    subst e1
    have hsz : rows.length ≤ cur.size := by rw [← h1]; omega
    have hbg : bk wr g = some (.cells cur 46 (0, 0)) := hh
    have hnew := h2.new g rfl
    have hvj : cur[j]? = some (vs.getD j undef) := by
      have : (cur.toList.take (vs.length * 1))[j]? = vs[j]? := by rw [htk]
      rw [List.getElem?_take, if_pos (by omega)] at this
      have hj2 : j < vs.length := by omega
      rw [List.getElem?_eq_getElem hj2] at this
      have h9 : cur[j]? = some vs[j] := by simpa using this
      rw [h9, List.getD_eq_getElem?_getD, List.getElem?_eq_getElem hj2]; rfl
    obtain ⟨Bj, cj, ej, hmj⟩ := h3 j (by omega)
    have hf : Fr (fun k => k = g) wr (wr.setCell ⟨g, j, none⟩ (.slice none 0 0)) := (Fr.refl (fun k => k = g) wr).setCell (p := ⟨g, j, none⟩) (fun _ => rfl) _
    refine ⟨g, cur, rfl, hbg, by omega, hnew.1, hnew.2.2, ⟨Bj, _, cj, by rw [hvj, ej]⟩, vs.set j (.slice none 0 0), by simp [h1], ⟨?_, ?_⟩, ?_⟩
    · refine ⟨by simp, .inr ⟨g, cap, cur.setIfInBounds j (.slice none 0 0), by simp [h1]; exact e3, Nat.zero_le _, ?_, by simpa using hnc, hcm, by simpa using hcs, ?_⟩⟩
      · show bk _ g = _
        rw [bk_setCell hbg]
      · rw [Array.toList_setIfInBounds, List.length_set, List.take_set]
        rw [htk]
    · intro k hk
      exact ⟨(h2.new k hk).1, (h2.new k hk).2.1, Nat.lt_of_lt_of_le (h2.new k hk).2.2 hf.size⟩
    · intro i hi
      rw [List.length_set] at hi
      by_cases hij : j = i
      · subst hij
        have e1 : (vs.set j (Value.slice none 0 0)).getD j undef = .slice none 0 0 := by
          simp [List.getD_eq_getElem?_getD, hi]
        have e2 : (rows.set j []).getD j [] = [] := by
          simp [List.getD_eq_getElem?_getD, show j < rows.length by omega]
        rw [e1, e2]
        exact ⟨none, 0, rfl, Mine.nil _ _ _ _⟩
      · have e1 : (vs.set j (Value.slice none 0 0)).getD i undef = vs.getD i undef := by
          simp [List.getD_eq_getElem?_getD, List.getElem?_set_ne hij]
        have e2 : (rows.set j []).getD i [] = rows.getD i [] := by
          simp [List.getD_eq_getElem?_getD, List.getElem?_set_ne hij]
        rw [e1, e2]
        obtain ⟨B, c', e, hm⟩ := h3 i hi
        refine ⟨B, c', e, ⟨ownsRow_fr hm.own hf (fun k hk e2 => ?_), fun k hk => ⟨(hm.new k hk).1, (hm.new k hk).2.1, Nat.lt_of_lt_of_le (hm.new k hk).2.2 hf.size⟩⟩⟩
        subst e2
        exact hm.ne h2 (by decide) k hk rfl
end Go.Proofs.Ytamjclpopkfhmaa
