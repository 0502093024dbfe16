/-
DigestBlock over texts.
-/
import Derived.Test.YteleheamnighkaaDoorPDBlockx1
import Derived.Test.YteleheamnighkaaDoorPureZ
set_option linter.unusedVariables false
set_option linter.unusedSimpArgs false
namespace Go.Proofs.YteleheamnighkaaDoor
open Go.RowKit Go.Proofs.YteleheamnighkaaDoorW.PrintWords
namespace Pure
theorem block_eq (P A B R : ByteArray) (p : Nat) (hP : P.size = 8 * p) (hA : A.size = B.size) (hA8 : A.size ≤ 8) :
    (((ofT (Dig.sum (tx ((P ++ A) ++ R)))).toList == (ofT (Dig.sum (tx ((P ++ B) ++ R)))).toList) == (A.toList == B.toList)) = true := by
  rw [beq_iff_eq, Bool.eq_iff_iff, beq_iff_eq, beq_iff_eq, ofT_eq, toList_tx, toList_tx, t_app, t_app, t_app, t_app]
  refine ⟨fun h => Dig.sum_block p (by rw [tx_len]; exact hP) (by rw [tx_len, tx_len]; exact hA) (by rw [tx_len]; exact hA8) h, fun h => by rw [h]⟩
theorem block_last (P A B R : ByteArray) (p : Nat) (hP : P.size = 8 * p) (hA : A.size = B.size) (hA8 : A.size ≤ 8) (hP2 : P.size ≤ 2000) (hR : R.size ≤ 2000) :
    (if P.size + A.size ≤ 9223372036854775807 then (if (P ++ A).size + R.size ≤ 9223372036854775807 then ((digest_Sum.f ((P ++ A) ++ R)).bind fun t102 => (if P.size + B.size ≤ 9223372036854775807 then (if (P ++ B).size + R.size ≤ 9223372036854775807 then ((digest_Sum.f ((P ++ B) ++ R)).bind fun t103 => (some ((t102.toList == t103.toList) == (A.toList == B.toList)))) else (none)) else (none))) else (none)) else (none)) = some true := by
  have e1 : (P ++ A).size ≤ 2500 := by rw [size_app]; omega
  have e2 : (P ++ B).size ≤ 2500 := by rw [size_app]; omega
  have e3 : ((P ++ A) ++ R).size ≤ 5000 := by rw [size_app]; omega
  have e4 : ((P ++ B) ++ R).size ≤ 5000 := by rw [size_app]; omega
  have i1 : P.size + A.size ≤ 5000 := by omega
  have i2 : (P ++ A).size + R.size ≤ 5000 := by omega
  have i3 : P.size + B.size ≤ 5000 := by omega
  have i4 : (P ++ B).size + R.size ≤ 5000 := by omega
  rw [if_pos (le_big i1), if_pos (le_big i2), dSum _ (le_mid e3), Option.bind_some, if_pos (le_big i3), if_pos (le_big i4), dSum _ (le_mid e4), Option.bind_some, block_eq P A B R p hP hA hA8]
theorem block_j0 (k : Nat) (x0 A B : ByteArray) (n p : Nat) (hA : A.size = n) (hB : B.size = n) (hn : n ≤ 8) (hp : 8 * p ≤ x0.size) (hx : x0.size ≤ 2000) :
    PDBlock.planispherelaw01_DigestBlock.j0 (k + 1) x0 A B true (n : Int) ((8 * p : Nat) : Int) false = some true := by
  rw [PDBlock.planispherelaw01_DigestBlock.j0]
  have hw : mn (wrap64 (((8 * p : Nat) : Int) + (n : Int))) (x0.size : Int) = ((min (8 * p + n) x0.size : Nat) : Int) := by
    rw [natAdd, wrapN (by omega), mnN]
  have i1 : (0 : Int) ≤ ((min (8 * p + n) x0.size : Nat) : Int) := by omega
  have i2 : ((min (8 * p + n) x0.size : Nat) : Int) ≤ (x0.size : Int) := by omega
  have i3 : (0 : Int) ≤ ((8 * p : Nat) : Int) := by omega
  have i4 : ((8 * p : Nat) : Int) ≤ (x0.size : Int) := by omega
  rw [if_neg Bool.false_ne_true, hw, if_pos i1, if_pos i2, if_pos rfl, if_pos i3, if_pos i4, Int.toNat_natCast, Int.toNat_natCast]
  refine block_last _ A B _ p ?_ (by omega) (by omega) ?_ ?_
  · rw [size_ext]; omega
  · rw [size_ext]; omega
  · rw [size_ext]; omega
theorem block_n (a b : Nat) : mn (mn (a : Int) (b : Int)) 8 = ((min (min a b) 8 : Nat) : Int) := by
  rw [mnN]; exact mnN _ 8
theorem block_at (p : Nat) (h : p ≤ 255) : wrap64 (8 * (wrap64 (p : Int))) = ((8 * p : Nat) : Int) := by
  rw [wrapN (by omega), show (8 : Int) * (p : Int) = ((8 * p : Nat) : Int) by omega, wrapN (by omega)]
theorem block_pure (a0 : ByteArray) (h0 : a0.size ≤ 140737488351232) (a1 : Int) (w1 : (Lit.int .u8 a1).wf = true) (a2 : ByteArray) (h2 : a2.size ≤ 140737488351232) (a3 : ByteArray) (h3 : a3.size ≤ 140737488351232) :
    ∃ k, PDBlock.planispherelaw01_DigestBlock.f k a0 a1 a2 a3 = some true := by
  have hw : 0 ≤ a1 ∧ a1 ≤ 255 := by simpa [Lit.wf, IntKind.min, IntKind.max, IntKind.signed, IntKind.bits] using w1
  obtain ⟨p, rfl⟩ := Int.eq_ofNat_of_zero_le hw.1
  have hp : p ≤ 255 := by have := hw.2; omega
  clear w1 hw h0 h2 h3
  refine ⟨1, ?_⟩
  unfold PDBlock.planispherelaw01_DigestBlock.f planispherelaw01_head.f
  obtain ⟨n, hn⟩ : ∃ n, n = min (min a2.size a3.size) 8 := ⟨_, rfl⟩
  have i1 : (0 : Int) ≤ (n : Int) := by omega
  have i2 : (n : Int) ≤ (a2.size : Int) := by omega
  have i3 : (n : Int) ≤ (a3.size : Int) := by omega
  rw [Option.bind_some, block_n, ← hn, if_pos i1, if_pos i2, if_pos i3, Int.toNat_natCast, block_at p hp]
  have hA : (a2.extract 0 n).size = n := by rw [size_ext]; omega
  have hB : (a3.extract 0 n).size = n := by rw [size_ext]; omega
  by_cases hs : (a0.size : Int) > 2000
  · rw [if_pos hs, PDBlock.planispherelaw01_DigestBlock.j0, if_pos rfl]
  · rw [if_neg hs]
    by_cases hq : ((8 * p : Nat) : Int) > (a0.size : Int)
    · rw [decide_eq_true hq, PDBlock.planispherelaw01_DigestBlock.j0, if_pos rfl]
    · rw [decide_eq_false hq]
      exact block_j0 0 a0 _ _ n p hA hB (by omega) (by omega) (by omega)
end Pure
end Go.Proofs.YteleheamnighkaaDoor
