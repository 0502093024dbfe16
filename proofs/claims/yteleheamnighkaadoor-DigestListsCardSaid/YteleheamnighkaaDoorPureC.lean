/-
DigestLists over texts and lists.
-/
import Derived.Test.YteleheamnighkaaDoorPDListsx1
import Derived.Test.YteleheamnighkaaDoorPureZ
set_option linter.unusedVariables false
set_option linter.unusedSimpArgs false
namespace Go.Proofs.YteleheamnighkaaDoor
open Go.RowKit Go.Proofs.YteleheamnighkaaDoorW.PrintWords
namespace Pure
theorem joined_one (A : List UInt8) (h : A.length < 10) : ∃ d, Dig.joined [A] = [d, 58] ++ A := by
  rw [Dig.joined_cons, Dig.joined_nil, List.append_nil]
  unfold Dig.piece
  exact ⟨_, by rw [Lib.decDigits_one h]; rfl⟩
theorem one_inj (A B : List UInt8) (hl : A.length = B.length) (h9 : A.length ≤ 9) (h6 : A.take 6 = B.take 6) (h : Dig.sum (Dig.joined [A]) = Dig.sum (Dig.joined [B])) : A = B := by
  by_cases h0 : A.length ≤ 6
  · rw [List.take_of_length_le h0, List.take_of_length_le (by omega)] at h6; exact h6
  · have ea : Dig.joined [A] = Lib.decDigits A.length ++ 58 :: A := by
      rw [Dig.joined_cons, Dig.joined_nil, List.append_nil]; rfl
    have eb : Dig.joined [B] = Lib.decDigits A.length ++ 58 :: B := by
      rw [Dig.joined_cons, Dig.joined_nil, List.append_nil, hl]; rfl
    rw [ea, eb, Lib.decDigits_one (by omega)] at h
    generalize UInt8.ofNat (A.length + 48) = d at h
    have fa : ∀ (X : List UInt8) (d : UInt8), [d] ++ 58 :: X = ([d, 58] ++ X.take 6) ++ X.drop 6 ++ [] := fun X d => by simp
    rw [fa A, fa B, ← h6] at h
    have := Dig.sum_block 1 (by simp; omega) (by simp; omega) (by simp; omega) h
    rw [← List.take_append_drop 6 A, ← List.take_append_drop 6 B, h6, this]
theorem need_one (A : ByteArray) (h : A.size ≤ 9) : need [A] ≤ 140737488355328 := by
  have e : need [A] = A.size + 21 + 0 := rfl
  rw [e]; omega
theorem lists_last (A B : ByteArray) (hs : A.size = B.size) (h9 : A.size ≤ 9) (h6 : (tx A).take 6 = (tx B).take 6) :
    ((digest_List.f (([A] : List ByteArray))).bind fun t115 => ((digest_List.f (([B] : List ByteArray))).bind fun t119 => (some ((t115.toList == t119.toList) == (A.toList == B.toList))))) = some true := by
  rw [dList _ (need_one A h9), Option.bind_some, dList _ (need_one B (by omega)), Option.bind_some]
  congr 1
  rw [beq_iff_eq, Bool.eq_iff_iff, beq_iff_eq, beq_iff_eq, ofT_eq, toList_tx, toList_tx]
  exact ⟨fun h => one_inj _ _ (by rw [tx_len, tx_len, hs]) (by rw [tx_len]; exact h9) h6 h, fun h => by
    have := tx_inj h; rw [this]⟩
theorem six (A x3 : ByteArray) (n : Nat) (hA : A.size = n) : (tx A).take 6 = (tx ((A.extract 0 (min n 6)) ++ (x3.extract (min n 6) n))).take 6 := by
  rw [t_app, t_ext, t_ext, List.drop_zero, Nat.sub_zero]
  by_cases h : n ≤ 6
  · rw [Nat.min_eq_left h, Nat.sub_self, List.take_zero, List.append_nil, List.take_of_length_le (i := n) (by rw [tx_len]; omega)]
  · rw [Nat.min_eq_right (by omega), List.take_append_of_le_length (by rw [List.length_take, tx_len]; omega), List.take_take]; rfl
theorem l_n (a b : Nat) : mn (mn (a : Int) (b : Int)) 9 = ((min (min a b) 9 : Nat) : Int) := by
  rw [mnN]; exact mnN _ 9
theorem l_m (n : Nat) : mn (n : Int) 6 = ((min n 6 : Nat) : Int) := mnN n 6
theorem lists_j2 (k : Nat) (x2 x3 : ByteArray) : PDLists.planispherelaw01_DigestLists.j2 (k + 1) x2 x3 true false = some true := by
  rw [PDLists.planispherelaw01_DigestLists.j2]
  obtain ⟨n, hn⟩ : ∃ n, n = min (min x2.size x3.size) 9 := ⟨_, rfl⟩
  have hA : (x2.extract 0 n).size = n := by rw [size_ext]; omega
  have i1 : (0 : Int) ≤ (n : Int) := by omega
  have i2 : (n : Int) ≤ (x2.size : Int) := by omega
  have i3 : (0 : Int) ≤ ((min n 6 : Nat) : Int) := by omega
  have i4 : ((min n 6 : Nat) : Int) ≤ ((x2.extract 0 n).size : Int) := by rw [hA]; omega
  have i5 : ((min n 6 : Nat) : Int) ≤ (n : Int) := by omega
  have i6 : (n : Int) ≤ (x3.size : Int) := by omega
  have s1 : ((x2.extract 0 n).extract 0 (min n 6)).size = min n 6 := by rw [size_ext, hA]; omega
  have s2 : (x3.extract (min n 6) n).size = n - min n 6 := by rw [size_ext]; omega
  have i7 : ((x2.extract 0 n).extract 0 (min n 6)).size + (x3.extract (min n 6) n).size ≤ 5000 := by rw [s1, s2]; omega
  rw [if_neg Bool.false_ne_true, l_n, ← hn, l_m, Int.toNat_natCast, Int.toNat_natCast, if_pos i1, if_pos i2, if_pos i3, if_pos i4, if_pos i5, if_pos i6, if_pos (le_big i7), if_pos rfl]
  refine lists_last _ _ ?_ (by rw [hA]; omega) (six _ x3 n hA)
  rw [size_app, s1, s2, hA]; omega
theorem map_tx_inj : ∀ {l m : List ByteArray}, l.map tx = m.map tx → l = m
  | [], [], _ => rfl
  | [], _ :: _, h => by cases h
  | _ :: _, [], h => by cases h
  | a :: l, b :: m, h => by
    rw [List.map_cons, List.map_cons, List.cons.injEq] at h
    rw [tx_inj h.1, map_tx_inj h.2]
theorem joined_same (l m : List ByteArray) : ((ofT (Dig.joined (l.map tx))).toList == (ofT (Dig.joined (m.map tx))).toList) = decide (l = m) := by
  rw [Bool.eq_iff_iff, beq_iff_eq, decide_eq_true_eq, ofT_eq]
  exact ⟨fun h => map_tx_inj (Dig.joined_inj h), fun h => by rw [h]⟩
theorem sum_same (l m : List ByteArray) (hl : (Dig.joined (l.map tx)).length ≤ 7) (hm : (Dig.joined (m.map tx)).length ≤ 7) :
    ((ofT (Dig.sum (Dig.joined (l.map tx)))).toList == (ofT (Dig.sum (Dig.joined (m.map tx)))).toList) = decide (l = m) := by
  rw [Bool.eq_iff_iff, beq_iff_eq, decide_eq_true_eq, ofT_eq]
  exact ⟨fun h => map_tx_inj (Dig.joined_inj (Dig.sum_short hl hm h)), fun h => by rw [h]⟩
theorem lists_j1 (k : Nat) (l m : List ByteArray) (x2 x3 : ByteArray) (hl : need l ≤ 140737488355328) (hm : need m ≤ 140737488355328) (hl2 : l.length ≤ 9223372036854775807) :
    PDLists.planispherelaw01_DigestLists.j1 (k + 2) l m x2 x3 true (ofT (Dig.joined (l.map tx))) (ofT (Dig.joined (m.map tx))) false = some true := by
  rw [PDLists.planispherelaw01_DigestLists.j1, if_neg Bool.false_ne_true]
  split
  · rename_i h1
    split
    · rename_i h2
      rw [size_ofT] at h1 h2
      rw [dList l hl, Option.bind_some, dList m hm, Option.bind_some, rSame l m hl2, Option.bind_some, sum_same l m (by omega) (by omega), bne_self_eq_false]
      exact lists_j2 k x2 x3
    · exact lists_j2 k x2 x3
  · exact lists_j2 k x2 x3
theorem joined_size (l : List ByteArray) (hl : need l ≤ 140737488355328) : (ofT (Dig.joined (l.map tx))).size ≤ 140737488355328 := by
  rw [size_ofT]; exact Nat.le_trans (joined_need l (big_of hl)) hl
theorem lists_j0 (k : Nat) (l m : List ByteArray) (x2 x3 : ByteArray) (hl : need l ≤ 140737488355328) (hm : need m ≤ 140737488355328) (hl2 : l.length ≤ 9223372036854775807) :
    PDLists.planispherelaw01_DigestLists.j0 (k + 3) l m x2 x3 true false = some true := by
  rw [PDLists.planispherelaw01_DigestLists.j0, if_neg Bool.false_ne_true, rJoined l hl, Option.bind_some, rJoined m hm, Option.bind_some, dList l hl, Option.bind_some, dSum _ (joined_size l hl), Option.bind_some,
    tx_ofT, if_pos rfl, rSame l m hl2, Option.bind_some, joined_same, bne_self_eq_false]
  exact lists_j1 k l m x2 x3 hl hm hl2
theorem lists_pure (l0 : List ByteArray) (h0 : l0.length ≤ 9223372036854775807) (l1 : List ByteArray) (h1 : l1.length ≤ 9223372036854775807) (a2 : ByteArray) (h2 : a2.size ≤ 140737488351232) (a3 : ByteArray) (h3 : a3.size ≤ 140737488351232) :
    ∃ k, PDLists.planispherelaw01_DigestLists.f k l0 l1 a2 a3 = some true := by
  refine ⟨3, ?_⟩
  unfold PDLists.planispherelaw01_DigestLists.f planispherelaw01_head.f
  rw [Option.bind_some, rFew l0 200 h0, Option.bind_some]
  cases hf : BaseFacts.few l0 200 with
  | false => rw [if_neg Bool.false_ne_true, PDLists.planispherelaw01_DigestLists.j0, if_pos rfl]
  | true =>
    rw [if_pos rfl, rFew l1 200 h1, Option.bind_some]
    cases hg : BaseFacts.few l1 200 with
    | false => rw [Bool.not_false, PDLists.planispherelaw01_DigestLists.j0, if_pos rfl]
    | true => rw [Bool.not_true]; exact lists_j0 0 l0 l1 a2 a3 (need_few hf) (need_few hg) h0
end Pure
end Go.Proofs.YteleheamnighkaaDoor
