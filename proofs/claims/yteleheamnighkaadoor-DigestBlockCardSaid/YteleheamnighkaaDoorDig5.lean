/-
The walks of the digest of a list, and of the form of digests.
-/
import Derived.Test.YteleheamnighkaaDoorDig4
import Derived.Test.YteleheamnighkaaDoorDigNum
import Derived.Test.YteleheamnighkaaDoorWWords
import Derived.Lib.AppendIntMem
set_option linter.unusedVariables false
set_option linter.unusedSimpArgs false
namespace Go.Proofs.YteleheamnighkaaDoor
open Go.RowKit Go.DoorKit Go.Proofs.YteleheamnighkaaDoorW.PrintWords
/-- The library's table of the powers of ten lies as it should. -/
def Glob (w : World) : Prop := Lib.TabIs Tryd.prog w "internal/strconv.uint64pow10" .u64 Lib.pow10Tab
theorem Glob.below {w w' : World} (h : Glob w) (hb : Below w.heap.size w w') : Glob w' := Lib.tabBelow_of_tabIs h w' hb
theorem isb_below {T e B b : Nat} {bs : List Value} {w w' : World} (h : Lib.IsBuilder T e B b bs w) (hb : Below w.heap.size w w') : Lib.IsBuilder T e B b bs w' := by
  have one : ∀ p, Lib.BuilderAt T e B b p bs w → Lib.BuilderAt T e B b p bs w' := by
    rintro p ⟨hB, v, hh, ho, hn⟩
    exact ⟨hB, v, (hb.block b ((Array.getElem?_eq_some_iff.1 hh).1)).trans hh, pw_own_below ho hb, hn⟩
  rcases h with h | h
  · exact .inl (one _ h)
  · exact .inr (one _ h)
theorem itoa_any (n : Int) (h0 : 0 ≤ n) (h1 : n ≤ 9223372036854775807) (w : World) (hG : Glob w) :
    Calls Tryd.prog 43 #[.int .i64 n] w fun e w' => (∃ t : ByteArray, e = .returned (.string t) ∧ Hid (t.data.toList = Lib.decDigits n.toNat) ∧ t.size ≤ 21) ∧ Below w.heap.size w w' := by
  refine (Tryd.strconv_Itoa n (by omega) h1 w hG).mono ?_
  rintro e w' ⟨rfl, k, os, rfl⟩
  have hl := Lib.itoa_length_le n (by omega) h1
  refine ⟨⟨_, rfl, Lib.hid ?_, ?_⟩, Lib.below_grow _ _ (Nat.le_refl _) _ _⟩
  · show Lib.itoa n = _
    unfold Lib.itoa; rw [if_neg (by omega)]
  · show (Lib.itoa n).toArray.size ≤ 21
    simpa using hl
theorem joined_ge : ∀ l : List (List UInt8), l.length ≤ (Dig.joined l).length
  | [] => Nat.zero_le _
  | s :: l => by
    have := joined_ge l
    rw [Dig.joined_cons, List.length_append, Dig.piece_len, List.length_cons]; omega
theorem joined_take (l : List (List UInt8)) (i : Nat) (s : List UInt8) (h : l[i]? = some s) : Dig.joined (l.take (i + 1)) = Dig.joined (l.take i) ++ Dig.piece s := by
  rw [List.take_add_one, h, Option.toList_some, Dig.joined_snoc]
theorem joined_le (l : List (List UInt8)) (i : Nat) : (Dig.joined (l.take i)).length ≤ (Dig.joined l).length := by
  have h : Dig.joined l = Dig.joined (l.take i) ++ Dig.joined (l.drop i) := by
    unfold Dig.joined
    rw [← List.flatten_append, ← List.map_append, List.take_append_drop]
  rw [h, List.length_append]; omega
/-- A builder that holds a text. -/
def Holds (b : Nat) (t : List UInt8) (w : World) : Prop := Lib.IsBuilder 64 5 b b (Lib.byteCells t) w
set_option maxRecDepth 100000 in
set_option maxHeartbeats 400000 in
theorem list_calls (A : Option Addr) (c : Nat) (l : List ByteArray) (w : World) (hr : Kd.C Kd.string w A l.length l) (hc : l.length ≤ c) (hj : (Dig.joined (l.map (·.data.toList))).length ≤ 140737488355328) (hG : Glob w) :
    Calls Tryd.prog 19 #[.slice A l.length c] w fun e w' => e = .returned (.string ⟨(Dig.sum (Dig.joined (l.map (·.data.toList)))).toArray⟩) ∧ Below w.heap.size w w' := by
  have hl : l.length ≤ 140737488355328 := by have := joined_ge (l.map (·.data.toList)); rw [List.length_map] at this; omega
  have HR := Lib.hid hr
  have HJ := Lib.hid hj
  have HG := Lib.hid hG
  clear hr hj hG
  go_enter Tryd.func19, Tryd.ntmps19
  go_wp2_with fail
  go_loopw [5, 8] (fun v5 v8 wr => ∃ i : Nat, i ≤ l.length ∧ v8 = .int .i64 i ∧ Holds w.heap.size (Dig.joined ((l.map (·.data.toList)).take i)) wr ∧ Below w.heap.size w wr) (fun _ v8 _ => l.length - (intOf v8).toNat)
  case atStart => exact ⟨0, Nat.zero_le _, rfl, Lib.fresh_isBuilder 64 5 w, (Below.refl _ _).alloc (Nat.le_refl _) _⟩
  case round =>
    obtain ⟨i, hi, rfl, hH, hB⟩ := hrel
    by_cases hlt : i < l.length
    · obtain ⟨ad, hA, hcell⟩ := Kd.at_string (Kd.C_below HR.out hB) (i : Int) (by omega) (by omega)
      obtain ⟨s, hs⟩ : ∃ s, l[i]? = some s := ⟨_, List.getElem?_eq_getElem hlt⟩
      have hrd : rdOf ByteArray.empty l (i : Int) = s := by simp [rdOf, List.getD, hs]
      rw [hrd, Int.toNat_natCast] at hcell
      subst hA
      have hst : (l.map (·.data.toList))[i]? = some s.data.toList := by rw [List.getElem?_map, hs]; rfl
      have hT := joined_take _ _ _ hst
      have hle := joined_le (l.map (·.data.toList)) (i + 1)
      have hpl := Dig.piece_len s.data.toList
      have hlen : (Dig.joined ((l.map (·.data.toList)).take (i + 1))).length = (Dig.joined ((l.map (·.data.toList)).take i)).length + (Dig.piece s.data.toList).length := by rw [hT, List.length_append]
      have hJ := HJ.out
      have hss : s.data.toList.length = s.size := by simp
      have hsz : s.size ≤ 140737488355328 := by omega
      have hsm : (s.size : Int) ≤ 9223372036854775807 := by omega
      have HT := Lib.hid hT
      have HB2 : Hid ((Dig.joined ((l.map (·.data.toList)).take i)).length + (Dig.piece s.data.toList).length ≤ 140737488355328) := Lib.hid (by omega)
      have HP := Lib.hid hpl
      clear hT hle hpl hlen hJ hss hrd hs hst
      generalize Dig.joined ((l.map (·.data.toList)).take i) = J at *
      go_wp2_with (first
        | (go_at_call 43; refine (itoa_any (s.size : Int) (by omega) hsm wr (HG.out.below hB)).mono ?_; rintro e w2 ⟨⟨t, rfl, ht, ht21⟩, hb2⟩))
      have hpc : (t ++ ⟨#[58]⟩ ++ s).data.toList = Dig.piece s.data.toList := by
        simp only [ByteArray.data_append, Array.toList_append, ht.out]
        unfold Dig.piece
        rw [Int.toNat_natCast, show s.data.toList.length = s.size by simp]
        simp
      have hps : (t ++ ⟨#[58]⟩ ++ s).size = (Dig.piece s.data.toList).length := by rw [← hpc, Array.length_toList]; rfl
      have hcells : Lib.byteCells J ++ Lib.strCells (t ++ ⟨#[58]⟩ ++ s) = Lib.byteCells (J ++ Dig.piece s.data.toList) := by rw [Lib.strCells_eq, hpc, ← Lib.byteCells_append]
      refine (Tryd.Builder_WriteString w.heap.size w.heap.size (Lib.byteCells J) _ w2 (isb_below hH hb2) (by rw [hps, Lib.byteCells_length]; exact HB2.out) (Nat.le_trans hB.size hb2.size)).mono ?_
      rintro e w3 ⟨rfl, hb3, hB3⟩
      rw [hcells, ← HT.out] at hb3
      have HH : Holds w.heap.size (Dig.joined ((l.map (·.data.toList)).take (i + 1))) w3 := .inr hb3
      have hB4 : Below w.heap.size w w3 := (hB.trans (hb2.mono hB.size)).trans hB3
      clear hb3 hcells hps hpc hH
      go_wp2
      go_roundw
      case rel => exact ⟨i + 1, by omega, by go_num, HH, hB4⟩
      case measure => simp [intOf]; omega
    · obtain rfl : i = l.length := by omega
      have hT : (l.map (·.data.toList)).take l.length = l.map (·.data.toList) := List.take_of_length_le (by simp)
      rw [hT] at hH
      have HH := Lib.hid hH
      have hJ := HJ.out
      have HS : Hid ((⟨(Dig.joined (l.map (·.data.toList))).toArray⟩ : ByteArray).size ≤ 9223372036854775807) := Lib.hid (by show (Dig.joined _).toArray.size ≤ _; simp at hJ ⊢; omega)
      clear hH hT hJ
      go_wp2_with (first
        | (go_at_call 44; refine (Tryd.Builder_String_any w.heap.size w.heap.size _ _ HH.out hB.size).mono ?_; rintro e w2 ⟨rfl, hb2⟩)
        | (go_at_call 17; refine (sum_calls _ HS.out _).mono ?_; rintro e w3 ⟨rfl, hb3⟩))
      go_ret
      exact ⟨rfl, (hB.trans hb2).trans (hb3.mono (Nat.le_trans hB.size hb2.size))⟩
end Go.Proofs.YteleheamnighkaaDoor
