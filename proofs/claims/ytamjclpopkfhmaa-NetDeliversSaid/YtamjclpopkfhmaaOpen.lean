/-
The arguments of the laws: operations, as they lie in memory.
-/
import Derived.Test.YtamjclpopkfhmaaOps
import Derived.Deep.Slices
import Derived.Deep.Fields
import Derived.ChangeSame
set_option linter.unusedVariables false
set_option linter.unusedSimpArgs false
namespace Go.Proofs.Ytamjclpopkfhmaa
open Go.RowKit Go.NetKit Go.ChangeShapes Go.WideShapes Go.Deep

/-- A slice of operations, as an argument. -/
structure OpsArg where
  A : Option Addr
  cap : Nat
  ops : List OpS
def OpsArg.value (x : OpsArg) : Value := .slice x.A x.ops.length x.cap

theorem one_of_drop {cs : List Value} {j : Nat} {v : Value} (h : (cs.drop j).take 1 = [v]) : cs[j]? = some v := by
  have : ((cs.drop j).take 1)[0]? = some v := by rw [h]; rfl
  rw [List.getElem?_take, if_pos (by omega), List.getElem?_drop, Nat.add_zero] at this
  exact this

theorem some_of_len {α : Type} {xs : List α} {n i : Nat} (h : xs.length = n) (hi : i < n) : ∃ x, xs[i]? = some x := ⟨xs[i]'(by omega), List.getElem?_eq_getElem (by omega)⟩

section
variable {H : Type} {enc : TypeId × Value → H} {w : World} {base : Nat} {spare : Nat → Bool} {held : Bool}
theorem open_op {n : Nat} {cs : List Value} {x : DataW H × List MemPlace} (h : DataW.trod enc Try.prog w base spare held n 35 cs = some x) :
    ∃ o : OpS, ∀ (j : Nat) (v : Value), (opC o)[j]? = some v → cs[j]? = some v := by
  obtain ⟨xs, n', _, _, _, hl, hf⟩ := DataW.trod_struct Try.underlying35 h
  have gi : ∀ (i : Nat) (f : Field), i < 8 → f.type = 3 → f.offset = i → (∀ xs' : Option (DataW H × List MemPlace), DataW.trod enc Try.prog w base spare held n' f.type ((cs.drop f.offset).take (Try.prog.cellsOf f.type)) = xs[i]? → ∃ q, cs[i]? = some (.int .i64 q)) := by
    intro i f hi ht ho _ he
    obtain ⟨y, hy⟩ := some_of_len (i := i) hl (by simpa using hi)
    rw [hy, ht, ho, Try.cells3] at he
    obtain ⟨q, hq, _⟩ := DataW.trod_int Try.underlying3 he
    exact ⟨q, one_of_drop hq⟩
  have c4 : Try.prog.cellsOf 4 = 1 := by kernel_rfl
  have c9 : Try.prog.cellsOf 9 = 1 := by kernel_rfl
  obtain ⟨q0, h0⟩ := gi 0 _ (by omega) rfl rfl none (hf 0 _ rfl)
  obtain ⟨q1, h1⟩ := gi 1 _ (by omega) rfl rfl none (hf 1 _ rfl)
  obtain ⟨q2, h2⟩ := gi 2 _ (by omega) rfl rfl none (hf 2 _ rfl)
  obtain ⟨q3, h3⟩ := gi 3 _ (by omega) rfl rfl none (hf 3 _ rfl)
  obtain ⟨q4, h4⟩ := gi 4 _ (by omega) rfl rfl none (hf 4 _ rfl)
  obtain ⟨q5, h5⟩ := gi 5 _ (by omega) rfl rfl none (hf 5 _ rfl)
  have h6' := hf 6 _ rfl
  have h7' := hf 7 _ rfl
  obtain ⟨y6, hy6⟩ := some_of_len (i := 6) hl (by simp)
  obtain ⟨y7, hy7⟩ := some_of_len (i := 7) hl (by simp)
  rw [hy6] at h6'
  rw [hy7] at h7'
  change DataW.trod enc Try.prog w base spare held n' 9 ((cs.drop 6).take (Try.prog.cellsOf 9)) = _ at h6'
  change DataW.trod enc Try.prog w base spare held n' 4 ((cs.drop 7).take (Try.prog.cellsOf 4)) = _ at h7'
  rw [c9] at h6'
  rw [c4] at h7'
  obtain ⟨s, hs, _⟩ := DataW.trod_string Try.underlying9 h6'
  obtain ⟨b, hb, _⟩ := DataW.trod_bool Try.underlying4 h7'
  have h6 := one_of_drop hs
  have h7 := one_of_drop hb
  refine ⟨⟨q0, q1, q2, q3, q4, q5, s, b⟩, fun j v hv => ?_⟩
  match j, hv with
  | 0, hv => simp [opC] at hv; subst hv; exact h0
  | 1, hv => simp [opC] at hv; subst hv; exact h1
  | 2, hv => simp [opC] at hv; subst hv; exact h2
  | 3, hv => simp [opC] at hv; subst hv; exact h3
  | 4, hv => simp [opC] at hv; subst hv; exact h4
  | 5, hv => simp [opC] at hv; subst hv; exact h5
  | 6, hv => simp [opC] at hv; subst hv; exact h6
  | 7, hv => simp [opC] at hv; subst hv; exact h7
  | j + 8, hv => simp [opC] at hv

theorem choose_ops {P : Nat → OpS → Prop} : ∀ n : Nat, (∀ i, i < n → ∃ o, P i o) → ∃ l : List OpS, l.length = n ∧ ∀ i, i < n → P i (opAt l i)
  | 0, _ => ⟨[], rfl, fun i hi => absurd hi (by omega)⟩
  | n + 1, h => by
    obtain ⟨l, hl, hp⟩ := choose_ops n (fun i hi => h i (by omega))
    obtain ⟨o, ho⟩ := h n (by omega)
    refine ⟨l ++ [o], by simp [hl], fun i hi => ?_⟩
    by_cases hlt : i < n
    · have : opAt (l ++ [o]) i = opAt l i := by
        simp [opAt, List.getD_eq_getElem?_getD, List.getElem?_append_left (show i < l.length by omega)]
      rw [this]; exact hp i hlt
    · obtain rfl : i = n := by omega
      have : opAt (l ++ [o]) i = o := by
        rw [← hl]; simp [opAt, List.getD_eq_getElem?_getD]
      rw [this]; exact ho

theorem open_ops {r : Reach} {b0 : Nat} {v : Value} {d : DataW H} {ps : List MemPlace} (hval : Value.okWide Try.prog w r b0 22 v) (h : DataW.Trod enc Try.prog w 0 (fun _ => true) true 22 v d ps) :
    ∃ x : OpsArg, v = x.value ∧ OpsAt w.heap.size w x.A x.ops := by
  obtain ⟨A, len, cap, rfl⟩ := okWide_slice Try.underlying22 hval
  obtain ⟨fuel, hf⟩ := h
  have c35 : Try.prog.cellsOf 35 = 8 := by kernel_rfl
  rcases open_slice Try.underlying22 hf with ⟨hcs, _⟩ | ⟨a, len', cap', m, n, D, Pl, hcs, _, hl, hcm, hm, _, hi⟩
  · simp [Value.cells] at hcs
    obtain ⟨rfl, rfl, rfl⟩ := hcs
    exact ⟨⟨none, 0, []⟩, rfl, by simp, fun hn => absurd hn (by simp)⟩
  · simp [Value.cells] at hcs
    obtain ⟨rfl, rfl, rfl⟩ := hcs
    have hm' : m = cap := by simpa using hm
    rw [c35] at hi
    obtain ⟨ops, ho1, ho2⟩ := choose_ops (P := fun i o => ∀ (j : Nat) (v : Value), (opC o)[j]? = some v → w.cell? ((a.add (i * 8)).add j) = some v) len (fun i hil => by
      obtain ⟨cs', hc, ht⟩ := hi i (by omega)
      obtain ⟨o, ho⟩ := open_op ht
      obtain ⟨_, hcl, hat⟩ := World.cells?_some hc
      refine ⟨o, fun j v hv => ?_⟩
      have hj : j < 8 := by
        rcases Nat.lt_or_ge j 8 with h | h
        · exact h
        · rw [Array.getElem?_eq_none (by simpa [opC] using h)] at hv; cases hv
      rw [hat j hj]; exact ho j v hv)
    refine ⟨⟨some a, cap, ops⟩, by simp [OpsArg.value, ho1], ?_, fun hn => ?_⟩
    · have : len ≤ maxLen := Nat.le_trans hl hcm
      rw [ho1]; simpa [maxLen] using this
    · simp only at hn
      rw [ho1] at hn
      have hz := ho2 0 hn 0 _ rfl
      have hspot : a.spot = none := by
        rw [Nat.zero_mul] at hz
        have e : (a.add 0).add 0 = a := rfl
        rw [e] at hz
        unfold World.cell? at hz
        cases hs : a.spot with
        | none => rfl
        | some q => rw [hs] at hz; split at hz <;> simp at hz
      obtain ⟨b, off, spot⟩ := a
      simp only at hspot
      subst hspot
      have hadd : ∀ i j, ((⟨b, off, none⟩ : Addr).add (i * 8)).add j = ⟨b, off + i * 8 + j, none⟩ := by
        intro i j
        unfold Addr.add
        split <;> split <;> simp_all <;> omega
      refine ⟨b, off, rfl, ?_, fun i hil j v hv => ?_⟩
      · have := World.block_lt_of_cell? w _ hz
        rw [hadd] at this; exact this
      · have := ho2 i (by simp only at hil; omega) j v hv
        rwa [hadd] at this
end

theorem u8_fits {a : Int} (h : (Lit.int .u8 a).wf = true) : 0 ≤ a ∧ a ≤ 255 := by
  simpa [Lit.wf, IntKind.min, IntKind.max, IntKind.signed, IntKind.bits] using h
end Go.Proofs.Ytamjclpopkfhmaa
