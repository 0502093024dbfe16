/-
The walk of all.
-/
import Derived.Test.YtamjclpopkfhmaaEmptied
set_option linter.unusedVariables false
set_option linter.unusedSimpArgs false
namespace Go.Proofs.Ytamjclpopkfhmaa
open Go.RowKit Go.NetKit

/-- Rows of texts, of the law's own. -/
def RowsM (w wr : World) (S' : Nat → Prop) (V : Value) (rows : List (List ByteArray)) : Prop :=
  ∃ vs : List Value, vs.length = rows.length ∧ Mine w wr S' 46 V vs ∧ ∀ i, i < vs.length → ∃ A c, vs.getD i undef = .slice A (rows.getD i []).length c ∧ Mine w wr S' 9 (vs.getD i undef) ((rows.getD i []).map .string)

theorem RowsM.nil (w wr : World) (S' : Nat → Prop) : RowsM w wr S' (.slice none 0 0) [] := ⟨[], rfl, Mine.nil _ _ _ _, fun i hi => absurd hi (by simp)⟩
theorem RowsM.form {w wr : World} {S' : Nat → Prop} {V : Value} {rows : List (List ByteArray)} (h : RowsM w wr S' V rows) : ∃ A c, V = .slice A rows.length c := by
  obtain ⟨vs, h1, h2, h3⟩ := h
  rw [← h1]; exact h2.form
theorem RowsM.fr {w wr w2 : World} {S' S2 : Nat → Prop} {V : Value} {rows : List (List ByteArray)} (h : RowsM w wr S' V rows) (hf : Fr S' wr w2) (hs : ∀ k, S2 k → S' k ∨ wr.heap.size ≤ k) : RowsM w w2 S2 V rows := by
  obtain ⟨vs, h1, h2, h3⟩ := h
  refine ⟨vs, h1, h2.fr hf hs, fun i hi => ?_⟩
  obtain ⟨A, c, e, hm⟩ := h3 i hi
  exact ⟨A, c, e, hm.fr hf hs⟩
theorem Mine.early {w0 w wr : World} {S' : Nat → Prop} {e : TypeId} {v : Value} {xs : List Value} (h : Mine w wr S' e v xs) (hw : w0.heap.size ≤ w.heap.size) : Mine w0 wr S' e v xs :=
  ⟨h.own, fun k hk => ⟨Nat.le_trans hw (h.new k hk).1, (h.new k hk).2⟩⟩

theorem Mine.ne {w wr : World} {S' : Nat → Prop} {e e' : TypeId} {v v' : Value} {xs xs' : List Value} (h : Mine w wr S' e v xs) (h' : Mine w wr S' e' v' xs') (hne : e ≠ e') : ∀ k, v.ownBlock = some k → ¬ v'.ownBlock = some k := by
  intro k hk hk'
  rcases h.own.2 with ⟨rfl, _⟩ | ⟨g, cap, cur, rfl, _, hh, _⟩
  · cases hk
  · rcases h'.own.2 with ⟨rfl, _⟩ | ⟨g', cap', cur', rfl, _, hh', _⟩
    · cases hk'
    · injection hk with hk; injection hk' with hk'
      subst hk; subst hk'
      have := hh.symm.trans hh'
      injection this with this; injection this with _ h2; exact hne h2

theorem RowsM.push {w wr : World} {S' : Nat → Prop} {V : Value} {rows : List (List ByteArray)} (h : RowsM w wr S' V rows) (hw : w.heap.size ≤ wr.heap.size) (hS : ∀ k, S' k → k < wr.heap.size) {v : Value} {r : List ByteArray} (hv : Mine w wr S' 9 v (r.map .string)) (hn : rows.length ≤ 100) :
    ∃ V' w', (∀ ty, (Builtin.append_ #[47, 47] ty #[V, .slice (some ⟨wr.heap.size, 0, none⟩) 1 1]).run Try.prog (wr.alloc (.cells #[v] 46)) = .ok V' w') ∧ RowsM w w' S' V' (rows ++ [r]) ∧ Fr (fun k => V.ownBlock = some k) wr w' ∧ (∀ k, V.ownBlock = some k → w.heap.size ≤ k ∧ ¬ S' k) := by
  obtain ⟨vs, h1, h2, h3⟩ := h
  obtain ⟨A, c, rfl⟩ := hv.form
  obtain ⟨V', w', hr, hm, hf⟩ := push_mine h2 hw hS Try.underlying47 Try.info46 rfl (.slice A (r.map Value.string).length c) rfl (by omega) (by omega)
  refine ⟨V', w', hr, ⟨vs ++ [.slice A (r.map Value.string).length c], by simp [h1], hm, ?_⟩, hf, fun k hk => ⟨(h2.new k hk).1, (h2.new k hk).2.1⟩⟩
  have keep : ∀ {u : Value} {xs : List Value}, Mine w wr S' 9 u xs → Mine w w' S' 9 u xs := by
    intro u xs hu
    exact ⟨ownsRow_fr hu.own hf (fun k hk => hu.ne h2 (by decide) k hk), fun k hk => ⟨(hu.new k hk).1, (hu.new k hk).2.1, Nat.lt_of_lt_of_le (hu.new k hk).2.2 hf.size⟩⟩
  intro i hi
  rw [List.length_append, List.length_singleton] at hi
  by_cases hlt : i < vs.length
  · obtain ⟨A', c', e, hm'⟩ := h3 i hlt
    have e1 : (vs ++ [Value.slice A (r.map Value.string).length c]).getD i undef = vs.getD i undef := by
      simp [List.getD_eq_getElem?_getD, List.getElem?_append_left hlt]
    have e2 : (rows ++ [r]).getD i [] = rows.getD i [] := by
      simp [List.getD_eq_getElem?_getD, List.getElem?_append_left (show i < rows.length by omega)]
    rw [e1, e2]
    exact ⟨A', c', e, keep hm'⟩
  · obtain rfl : i = vs.length := by omega
    have e1 : (vs ++ [Value.slice A (r.map Value.string).length c]).getD vs.length undef = .slice A (r.map Value.string).length c := by
      simp [List.getD_eq_getElem?_getD]
    have e2 : (rows ++ [r]).getD vs.length [] = r := by
      rw [h1]; simp [List.getD_eq_getElem?_getD]
    rw [e1, e2]
    exact ⟨A, c, by simp, keep hv⟩

/-- What all returns, row by row. -/
def allRow (N : NetS) (j : Nat) : List ByteArray := if j / 3 = j % 3 then [] else (N.q ((j / 3 : Nat) : Int) ((j % 3 : Nat) : Int)).take 110
def allRows (N : NetS) (m : Nat) : List (List ByteArray) := (List.range m).map (allRow N)
theorem allRows_succ (N : NetS) (m : Nat) : allRows N (m + 1) = allRows N m ++ [allRow N m] := by simp [allRows, List.range_succ]
theorem allRows_length (N : NetS) (m : Nat) : (allRows N m).length = m := by simp [allRows]

/-- What all knows when m rows are told. -/
def AllK (w wr : World) (p : Option Addr) (S : Nat → Prop) (V : Value) (m : Nat) (N : NetS) : Prop :=
  ∃ N' S', NetP wr p S' N' ∧ N'.nodes = 3 ∧ (∀ k j : Nat, k < 3 → j < 3 → m ≤ 3 * k + j → N'.q k j = N.q k j) ∧ Fr S w wr ∧ (∀ k, S' k → S k ∨ w.heap.size ≤ k) ∧ RowsM w wr S' V (allRows N m)

theorem AllK.form {w wr : World} {p : Option Addr} {S : Nat → Prop} {V : Value} {m : Nat} {N : NetS} (h : AllK w wr p S V m N) : ∃ A c, V = .slice A m c := by
  obtain ⟨N', S', h1, h2, h3, h4, h5, h6⟩ := h
  have := h6.form
  rwa [allRows_length] at this

/-- Cut(a, b, false), in all. -/
theorem AllK.mend {w wr : World} {p : Option Addr} {S : Nat → Prop} {V : Value} {m : Nat} {N : NetS} (h : AllK w wr p S V m N) (k j : Nat) (hk : k < 3) (hj : j < 3) (hne : k ≠ j) :
    Calls Try.prog 21 #[.pointer p, .int .i64 k, .int .i64 j, .bool false] wr fun e w' => e = .returned (.int .i64 0) ∧
      ∃ N' S', NetP w' p S' N' ∧ N'.nodes = 3 ∧ (∀ k j : Nat, k < 3 → j < 3 → m ≤ 3 * k + j → N'.q k j = N.q k j) ∧ Fr S w w' ∧ (∀ k, S' k → S k ∨ w.heap.size ≤ k) ∧ RowsM w w' S' V (allRows N m) ∧ N'.cut k j = false := by
  obtain ⟨N', S', h1, h2, h3, h4, h5, h6⟩ := h
  have hok : N'.ok k j = true := by
    unfold NetS.ok; rw [h2]; exact decide_eq_true ⟨by omega, by omega, by omega, by omega, by omega⟩
  refine (cut_calls h1 k j false).mono ?_
  rintro e w2 ⟨rfl, S2, g1, g2, g3⟩
  have hcs : N'.cutS k j false = (N'.setc k j false, 0) := by unfold NetS.cutS; rw [hok]; simp
  rw [hcs] at g1 ⊢
  refine ⟨rfl, N'.setc k j false, S2, g1, h2, h3, h4.trans' g2 ?_, ?_, h6.fr g2 g3, by simp [NetS.setc]⟩
  · intro k hk hs
    rcases h5 k hs with h | h
    · exact h
    · omega
  · intro k hk
    rcases g3 k hk with h | h
    · exact h5 k h
    · have := h4.size; exact .inr (by omega)


/-- .. and its line is whole, where there is one. -/
def AllC (w wr : World) (p : Option Addr) (S : Nat → Prop) (V : Value) (k j : Nat) (N : NetS) : Prop :=
  ∃ N' S', NetP wr p S' N' ∧ N'.nodes = 3 ∧ (∀ x y : Nat, x < 3 → y < 3 → 3 * k + j ≤ 3 * x + y → N'.q x y = N.q x y) ∧ Fr S w wr ∧ (∀ k, S' k → S k ∨ w.heap.size ≤ k) ∧ RowsM w wr S' V (allRows N (3 * k + j)) ∧ (k ≠ j → N'.cut k j = false)
theorem AllK.c {w wr : World} {p : Option Addr} {S : Nat → Prop} {V : Value} {k : Nat} {N : NetS} (h : AllK w wr p S V (3 * k + k) N) : AllC w wr p S V k k N := by
  obtain ⟨N', S', h1, h2, h3, h4, h5, h6⟩ := h
  exact ⟨N', S', h1, h2, h3, h4, h5, h6, fun h => absurd rfl h⟩
theorem AllK.mend' {w wr : World} {p : Option Addr} {S : Nat → Prop} {V : Value} {N : NetS} {k j : Nat} (h : AllK w wr p S V (3 * k + j) N) (hk : k < 3) (hj : j < 3) (hne : k ≠ j) :
    Calls Try.prog 21 #[.pointer p, .int .i64 k, .int .i64 j, .bool false] wr fun e w' => e = .returned (.int .i64 0) ∧ AllC w w' p S V k j N := by
  refine (h.mend k j hk hj hne).mono ?_
  rintro e w' ⟨he, N', S', h1, h2, h3, h4, h5, h6, h7⟩
  exact ⟨he, N', S', h1, h2, h3, h4, h5, h6, fun _ => h7⟩

/-- A row more is read; the row of rows still lacks it. -/
def AllR (w wr : World) (p : Option Addr) (S : Nat → Prop) (V v : Value) (k j : Nat) (N : NetS) : Prop :=
  ∃ N' S', NetP wr p S' N' ∧ N'.nodes = 3 ∧ (∀ x y : Nat, x < 3 → y < 3 → 3 * k + j + 1 ≤ 3 * x + y → N'.q x y = N.q x y) ∧ Fr S w wr ∧ (∀ k, S' k → S k ∨ w.heap.size ≤ k) ∧ RowsM w wr S' V (allRows N (3 * k + j)) ∧ Mine w wr S' 9 v ((allRow N (3 * k + j)).map .string)

theorem AllC.emptied {w wr : World} {p : Option Addr} {S : Nat → Prop} {V : Value} {N : NetS} {k j : Nat} (h : AllC w wr p S V k j N) (hk : k < 3) (hj : j < 3) :
    Calls Try.prog 33 #[.pointer p, .int .i64 k, .int .i64 j] wr fun e w' => ∃ A n c, e = .returned (.slice A n c) ∧ AllR w w' p S V (.slice A n c) k j N := by
  obtain ⟨N', S', h1, h2, h3, h4, h5, h6, h7⟩ := h
  have hd : (3 * k + j) / 3 = k := by omega
  have hm : (3 * k + j) % 3 = j := by omega
  by_cases hne : k = j
  · subst hne
    refine (emptied_wrong h1 k k (by unfold NetS.ok; simp)).mono ?_
    rintro e w' ⟨rfl, rfl⟩
    refine ⟨none, 0, 0, rfl, N', S', h1, h2, fun x y hx hy hxy => h3 x y hx hy (by omega), h4, h5, h6, ?_⟩
    have : allRow N (3 * k + k) = [] := by unfold allRow; rw [hd, hm, if_pos rfl]
    rw [this]
    exact Mine.nil _ _ _ _
  · have hok : N'.ok k j = true := by
      unfold NetS.ok; rw [h2]; exact decide_eq_true ⟨by omega, by omega, by omega, by omega, by omega⟩
    refine (emptied_good h1 k j hok (h7 hne)).mono ?_
    rintro e w2 ⟨v, rfl, N2, g1, g2, g3, S2, k1, k2, k3, k4⟩
    obtain ⟨A, c, rfl⟩ := k4.form
    have hrow : allRow N (3 * k + j) = (N'.q k j).take 110 := by
      unfold allRow; rw [hd, hm, if_neg hne, h3 k j hk hj (by omega)]
    refine ⟨A, _, c, rfl, N2, S2, k1, by rw [g1, h2], ?_, h4.trans' k2 ?_, ?_, h6.fr k2 k3, ?_⟩
    · intro x y hx hy hxy
      rw [g2 x y (by omega)]
      exact h3 x y hx hy (by omega)
    · intro k hk hs
      rcases h5 k hs with h | h
      · exact h
      · omega
    · intro k hk
      rcases k3 k hk with h | h
      · exact h5 k h
      · have := h4.size; exact .inr (by omega)
    · rw [hrow]
      exact k4.early h4.size

theorem AllR.push {w wr : World} {p : Option Addr} {S : Nat → Prop} {V v : Value} {N : NetS} {k j : Nat} (h : AllR w wr p S V v k j N) (hk : k < 3) (hj : j < 3) :
    ∃ V' w', (∀ ty, (Builtin.append_ #[47, 47] ty #[V, .slice (some ⟨wr.heap.size, 0, none⟩) 1 1]).run Try.prog (wr.alloc (.cells #[v] 46)) = .ok V' w') ∧ AllK w w' p S V' (3 * k + j + 1) N := by
  obtain ⟨N', S', h1, h2, h3, h4, h5, h6, h7⟩ := h
  obtain ⟨V', w', hr, hm, hf, hn⟩ := h6.push h4.size h1.lt h7 (by rw [allRows_length]; omega)
  refine ⟨V', w', hr, N', S', h1.fr hf (fun k hk e => (hn k e).2 hk), h2, h3, h4.trans' hf (fun k hk e => by have := (hn k e).1; omega), h5, ?_⟩
  rw [allRows_succ]; exact hm

set_option maxHeartbeats 1000000 in
theorem all_calls {w : World} {p : Option Addr} {S : Nat → Prop} {N : NetS} (h : NetP w p S N) (hn : N.nodes = 3) :
    Calls Try.prog 19 #[.pointer p] w fun e w' => ∃ A c, e = .returned (.slice A 9 c) ∧ AllK w w' p S (.slice A 9 c) 9 N := by
  have H0 : Hid (AllK w w p S (.slice none 0 0) 0 N) := ⟨N, S, h, hn, fun _ _ _ _ _ => rfl, Fr.refl _ _, fun _ hk => .inl hk, RowsM.nil _ _ _⟩
  clear h hn
  go_enter Try.func19, Try.ntmps19
  go_wp2_with fail
  go_loopw [3, 4] (fun V i wr => ∃ (k : Nat) (A : Option Addr) (c : Nat), k ≤ 3 ∧ V = .slice A (3 * k) c ∧ i = .int .i64 k ∧ AllK w wr p S (.slice A (3 * k) c) (3 * k) N) (fun _ i _ => 3 - (intOf i).toNat)
  case atStart => exact ⟨0, none, 0, by omega, rfl, rfl, H0.out⟩
  case round =>
    obtain ⟨k, A, c, hk, rfl, rfl, he⟩ := hrel
    have HW := Lib.hid he; clear he
    obtain ⟨wo, rfl⟩ : ∃ wo : World, wo = wr := ⟨_, rfl⟩
    by_cases hlt : k < 3
    · have hk1 : (k : Int) < 3 := by omega
      go_wp2_with fail
      go_loopw [3, 5] (fun V i wi => ∃ (j : Nat) (A : Option Addr) (c : Nat), j ≤ 3 ∧ V = .slice A (3 * k + j) c ∧ i = .int .i64 j ∧ AllK w wi p S (.slice A (3 * k + j) c) (3 * k + j) N) (fun _ i _ => 3 - (intOf i).toNat)
      case atStart => exact ⟨0, A, c, by omega, rfl, rfl, HW.out⟩
      case round =>
        obtain ⟨j, A2, c2, hj, rfl, rfl, he⟩ := hrel
        have H2 := Lib.hid he; clear he
        by_cases hlj : j < 3
        · have hj1 : (j : Int) < 3 := by omega
          by_cases hne : k = j
          · subst hne
            go_wp2_with fail
            refine (H2.out.c.emptied hlt hlj).mono ?_
            rintro e w3 ⟨A3, n3, c3, rfl, h3⟩
            obtain ⟨V', w4, hr, h4⟩ := h3.push hlt hlj
            obtain ⟨A4, c4, rfl⟩ := h4.form
            have H4 := Lib.hid h4
            have HR := Lib.hid hr
            clear h3 h4 hr
            go_wp2_with (at_builtin; refine wpList_builtin rfl .append #[.tmp 21, .tmp 26] #[47, 47] rfl #[.slice A2 (3 * k + k) c2, .slice (some ⟨w3.heap.size, 0, none⟩) 1 1] (by simp [Act.eval]) (ran_append HR.out) ?_)
            go_roundw
            case rel => exact ⟨k + 1, A4, c4, by omega, rfl, by go_num, H4.out⟩
            case measure => simp [intOf]; omega
          · have hne1 : ((k : Int) == (j : Int)) = false := by simp; omega
            have hne2 : ((k : Int) != (j : Int)) = true := by simp; omega
            go_wp2_with fail
            refine (H2.out.mend' hlt hlj hne).mono ?_
            rintro e w2 ⟨rfl, h2⟩
            have HM := Lib.hid h2; clear h2
            go_wp2_with fail
            refine (HM.out.emptied hlt hlj).mono ?_
            rintro e w3 ⟨A3, n3, c3, rfl, h3⟩
            obtain ⟨V', w4, hr, h4⟩ := h3.push hlt hlj
            obtain ⟨A4, c4, rfl⟩ := h4.form
            have H4 := Lib.hid h4
            have HR := Lib.hid hr
            clear h3 h4 hr
            go_wp2_with (at_builtin; refine wpList_builtin rfl .append #[.tmp 21, .tmp 26] #[47, 47] rfl #[.slice A2 (3 * k + j) c2, .slice (some ⟨w3.heap.size, 0, none⟩) 1 1] (by simp [Act.eval]) (ran_append HR.out) ?_)
            go_roundw
            case rel => exact ⟨j + 1, A4, c4, by omega, rfl, by go_num, H4.out⟩
            case measure => simp [intOf]; omega
        · obtain rfl : j = 3 := by omega
          go_wp2_with fail
          go_roundw
          case rel => exact ⟨k + 1, A2, c2, by omega, rfl, by go_num, H2.out⟩
          case measure => simp [intOf]; omega
    · obtain rfl : k = 3 := by omega
      go_wp2_with fail
      go_ret
      exact ⟨A, c, rfl, HW.out⟩
end Go.Proofs.Ytamjclpopkfhmaa
