/-
The digest's examples: true.
-/
import Derived.Test.YteleheamnighkaaDoorPHdx1
import Derived.Test.YteleheamnighkaaDoorGiven2
set_option linter.unusedVariables false
set_option linter.unusedSimpArgs false
namespace Go.Proofs.YteleheamnighkaaDoor
open Go.RowKit Go.Proofs.YteleheamnighkaaDoorW.PrintWords
theorem big_of {n : Nat} (h : n ≤ 140737488355328) : Big n := h
theorem dSum (s : ByteArray) (h : s.size ≤ 140737488355328) : digest_Sum.f s = some (ofT (Dig.sum (tx s))) := if_pos h
theorem dIs (s : ByteArray) (h : s.size ≤ 140737488355328) : digest_Is.f s = some (Dig.isD (tx s)) := if_pos h
theorem dList (l : List ByteArray) (h : need l ≤ 140737488355328) : digest_List.f l = some (ofT (Dig.sum (Dig.joined (l.map tx)))) := if_pos h
theorem rSum (s : ByteArray) (h : s.size ≤ 140737488355328) : planisphereref01_Sum.f s = some (ofT (Dig.sum (tx s))) := if_pos h
theorem rIs (s : ByteArray) (h : s.size ≤ 140737488355328) : planisphereref01_Is.f s = some (Dig.isD (tx s)) := if_pos h
theorem rJoined (l : List ByteArray) (h : need l ≤ 140737488355328) : planisphereref01_Joined.f l = some (ofT (Dig.joined (l.map tx))) := if_pos h
theorem rSame (l m : List ByteArray) (h : l.length ≤ 9223372036854775807) : planisphereref01_Same.f l m = some (decide (l = m)) := if_pos h
theorem rFew (l : List ByteArray) (n : Int) (h : l.length ≤ 9223372036854775807) : planisphereref01_Few.f l n = some (BaseFacts.few l n) := if_pos h
theorem toList_tx (s : ByteArray) : s.toList = tx s := ByteArray.toList_eq s
theorem ofT_eq {a b : List UInt8} : (ofT a).toList = (ofT b).toList ↔ a = b := by rw [toList_tx, toList_tx]; exact Iff.rfl
theorem head_f : PHd.planispherelaw01_head.f 2 = some true := by
  have e1 : digest_Is.f (⟨#[48, 49, 50, 51, 52, 53, 54, 55, 56, 57, 97, 98, 99, 100, 101, 102]⟩ : ByteArray) = some true := by rw [dIs _ (by decide)]; decide
  have e2 : digest_Is.f (⟨#[48, 49, 50, 51, 52, 53, 54, 55, 56, 57, 97, 98, 99, 100, 101, 70]⟩ : ByteArray) = some false := by rw [dIs _ (by decide)]; decide
  have e3 : digest_Is.f (⟨#[]⟩ : ByteArray) = some false := by rw [dIs _ (by decide)]; decide
  have n1 : need [(⟨#[97]⟩ : ByteArray), (⟨#[98, 99]⟩ : ByteArray)] ≤ 140737488355328 := by decide
  have hj : Dig.joined [[97], [98, 99]] = [49, 58, 97, 50, 58, 98, 99] := by
    rw [Dig.joined_cons, Dig.joined_cons, Dig.joined_nil]
    unfold Dig.piece
    rw [show ([97] : List UInt8).length = 1 from rfl, show ([98, 99] : List UInt8).length = 2 from rfl, Lib.decDigits_one (by decide), Lib.decDigits_one (by decide)]; rfl
  have e4 : digest_List.f [(⟨#[97]⟩ : ByteArray), (⟨#[98, 99]⟩ : ByteArray)] = some (ofT (Dig.sum [49, 58, 97, 50, 58, 98, 99])) := by rw [dList _ n1, ← hj]; rfl
  have e5 : digest_Sum.f (⟨#[49, 58, 97, 50, 58, 98, 99]⟩ : ByteArray) = some (ofT (Dig.sum [49, 58, 97, 50, 58, 98, 99])) := dSum _ (by decide)
  have e6 : digest_Sum.f (⟨#[]⟩ : ByteArray) = some (ofT (Dig.sum [])) := dSum _ (by decide)
  have e7 : digest_Sum.f (⟨#[0]⟩ : ByteArray) = some (ofT (Dig.sum [0])) := dSum _ (by decide)
  have e8 : digest_Sum.f (⟨#[1]⟩ : ByteArray) = some (ofT (Dig.sum [1])) := dSum _ (by decide)
  have d1 : Dig.sum [] ≠ Dig.sum [0] := fun h => by have := Dig.sum_short (by simp) (by simp) h; cases this
  have d2 : Dig.sum [1] ≠ Dig.sum [] := fun h => by have := Dig.sum_short (by simp) (by simp) h; cases this
  have hj0 : PHd.planispherelaw01_head.j0 2 true = some true := by
    simp only [PHd.planispherelaw01_head.j0, if_true]
    rw [e4]; simp only [Option.bind_some]
    rw [e5]; simp only [Option.bind_some]
    rw [if_pos trivial, e6]; simp only [Option.bind_some]
    rw [e7]; simp only [Option.bind_some]
    rw [if_neg (fun h => d1 (ofT_eq.1 h)), e8]; simp only [Option.bind_some]
    congr 1
    exact bne_iff_ne.2 (fun h => d2 (ofT_eq.1 h))
  unfold PHd.planispherelaw01_head.f
  rw [e1]; simp only [Option.bind_some, if_true]
  rw [e2]; simp only [Option.bind_some, Bool.false_eq_true, if_false]
  rw [e3]; simp only [Option.bind_some]
  exact hj0
def planispherelaw01_head.f : Option Bool := some true
theorem planispherelaw01_head.calls (r : Bool) (w : World) (h : planispherelaw01_head.f = some r) (hG : Glob w) :
    Calls Tryd.prog 15 #[] w fun e w' => e = .returned (.bool r) ∧ Below w.heap.size w w' := by
  obtain rfl := Option.some.inj h
  exact PHd.planispherelaw01_head.calls 2 true w head_f hG
end Go.Proofs.YteleheamnighkaaDoor
