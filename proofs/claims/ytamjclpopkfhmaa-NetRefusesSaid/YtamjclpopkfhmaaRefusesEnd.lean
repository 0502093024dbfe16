/-
NetRefuses, for the row.
-/
import Derived.Test.YtamjclpopkfhmaaRefuses2
import Derived.WideShapes
set_option linter.unusedVariables false
set_option linter.unusedSimpArgs false
namespace Go.Proofs.Ytamjclpopkfhmaa
open Go.ChangeShapes Go.WideShapes Go.RowKit Go.NetKit
variable {H : Type} {enc : TypeId × Value → H} {w : World} {base : Nat}

/-- An operation's value. -/
def OpS.value (o : OpS) : Value := .agg (opC o)
theorem open_one {r : Reach} {b0 : Nat} {v : Value} {d : DataW H} {ps : List MemPlace} (hval : Value.okWide Try.prog w r b0 35 v) (h : DataW.Trod enc Try.prog w 0 (fun _ => true) true 35 v d ps) :
    ∃ o : OpS, v = o.value ∧ True := by
  obtain ⟨cs, rfl, hsz⟩ := okWide_struct Try.underlying35 hval
  have c35 : Try.prog.cellsOf 35 = 8 := by kernel_rfl
  rw [c35] at hsz
  obtain ⟨fuel, hf⟩ := h
  obtain ⟨o, ho⟩ := open_op hf
  refine ⟨o, ?_, trivial⟩
  unfold OpS.value
  congr 1
  apply Array.ext_getElem?
  intro i
  by_cases hi : i < 8
  · have hs : (opC o)[i]? = some ((opC o)[i]'(by simpa [opC] using hi)) := Array.getElem?_eq_getElem _
    have := ho i _ hs
    rw [hs, ← this]
    simp [Value.cells]
  · rw [Array.getElem?_eq_none (by omega), Array.getElem?_eq_none (by simp [opC]; omega)]

theorem refuses_row (w : World) (x : OpsArg) (hx : OpsAt w.heap.size w x.A x.ops) (o : OpS) (_ : True) :
    Calls Try.prog 8 #[x.value, o.value] w fun e w' => e = .returned (.bool true) ∧ Below w.heap.size w w' := by
  have hb' : ∀ {w w' : World}, Fr (fun _ => False) w w' → Below w.heap.size w w' := fun h => h.below _ (Nat.le_refl _) (fun _ h => h.elim)
  by_cases hf : fewOps x.ops = true
  · by_cases hg : fewOps [o] = true
    · exact (refuses_good w x.A x.cap x.ops hx o hf hg).mono fun e w' hh => ⟨hh.1, hb' hh.2⟩
    · exact (refuses_few2 w x.A x.cap x.ops hx o hf (by simpa using hg)).mono fun e w' hh => ⟨hh.1, hb' hh.2⟩
  · exact (refuses_few w x.A x.cap x.ops hx o (by simpa using hf)).mono fun e w' hh => ⟨hh.1, hb' hh.2⟩
end Go.Proofs.Ytamjclpopkfhmaa
