/-
What the network's operations leave, told of its data: a queue turned, or nothing.
-/
import Derived.Test.YtamjclpopkfhmaaWalk3
set_option linter.unusedVariables false
set_option linter.unusedSimpArgs false
namespace Go.Proofs.Ytamjclpopkfhmaa
open Go.RowKit Go.NetKit

theorem Try.info5 : (Try.prog.info? 5).map (fun i => (i.zero, i.size, i.bytes)) = some (some (.int .u8 0), 1, 1) := by kernel_rfl
theorem Try.info38b : (Try.prog.info? 38).map (fun i => (i.zero, i.size, i.bytes)) = some (some (.slice none 0 0), 1, 24) := by kernel_rfl
theorem cut_val {C : List Ent} (h : ∀ a b v, lk a b C = some v → ∃ x, v = .bool x) (a b : Int) : (lk a b C).getD (.bool false) = .bool (cutOf C a b) := by
  unfold cutOf
  cases hl : lk a b C with
  | none => rfl
  | some v => obtain ⟨x, rfl⟩ := h a b v hl; rfl
theorem ownsRow_form1 {w : World} {b e n : Nat} {v : Value} {xs : List Value} (h : w.ownsRow b e 1 v n xs) (hn : 0 < n) : ∃ A c, v = .slice A n c := by
  rcases h.2 with ⟨rfl, rfl⟩ | ⟨g, cap, cur, rfl, _⟩
  · omega
  · exact ⟨_, cap, rfl⟩
theorem QIs_row_ne {w : World} {S : Nat → Prop} {q : Nat} {lv : Value} {L : List (Nat × ByteArray)} (h : QIs w S q lv L) : ¬ lv.ownBlock = some q := by
  intro e
  rcases h.own.2 with ⟨rfl, _⟩ | ⟨g, cap, cur, rfl, _, hh, _⟩
  · cases e
  · injection e with e
    subst e
    have := h.hq.symm.trans hh
    injection this with this; injection this with _ h2; cases h2

/-- What a walk reads of a network behind 'of'. -/
theorem OfPost.reads {w w' : World} {g mq mc : Nat} {nodes : Int} {C : List Ent} {cc : Nat} {lab : Nat → Option (Int × Int)} {L : Int → Int → List (Nat × ByteArray)} {a b : Int} {q : Nat} {E' : List Ent} {ck' : Nat} {lab' : Nat → Option (Int × Int)}
    (h : OfPost w w' g mq mc nodes C cc lab L a b q E' ck' lab') : w'.cell? ⟨g, 2, none⟩ = some (.map (some mc)) ∧ bk w' mc = some (.map (ents C) cc) ∧ g < w'.heap.size ∧ mc < w'.heap.size ∧ q < w'.heap.size ∧
      ∃ A c, w'.cell? ⟨q, 0, none⟩ = some (.slice A (L a b).length c) ∧ w'.frozen? ⟨q, 0, none⟩ = false ∧ QIs w' (fun k => lab' k = some (a, b)) q (.slice A (L a b).length c) (L a b) := by
  obtain ⟨lv, hq⟩ := h.q
  refine ⟨by rw [cell?_bk h.net.hg]; rfl, h.net.hmc, bk_lt h.net.hg, bk_lt h.net.hmc, bk_lt hq.hq, ?_⟩
  have : ∃ A c, lv = .slice A (L a b).length c := by
    rcases hq.own.2 with ⟨rfl, h0⟩ | ⟨g, cap, cur, rfl, _⟩
    · simp at h0; rw [h0]; exact ⟨none, 0, rfl⟩
    · exact ⟨_, cap, rfl⟩
  obtain ⟨A, c, rfl⟩ := this
  exact ⟨A, c, by rw [cell?_bk hq.hq]; rfl, frozen?_bk hq.hq 0, hq⟩

open Classical in
theorem NIs_update {w w2 : World} {g mq mc : Nat} {nodes : Int} {E C : List Ent} {ck cc : Nat} {lab : Nat → Option (Int × Int)} {L : Int → Int → List (Nat × ByteArray)}
    (h : NIs w g mq mc nodes E C ck cc lab L) {a b : Int} {q : Nat} (hl : lk a b E = some (.pointer (some ⟨q, 0, none⟩))) {T S' : Nat → Prop} (hf : Fr T w w2) (hT : ∀ k, T k → lab k = some (a, b))
    {lv : Value} {Ln : List (Nat × ByteArray)} (hq : QIs w2 S' q lv Ln) (hS : ∀ k, S' k → lab k = some (a, b) ∨ w.heap.size ≤ k) (hlt : ∀ k, S' k → k < w2.heap.size) :
    NIs w2 g mq mc nodes E C ck cc (fun k => if S' k then some (a, b) else lab k) (fun x y => if x = a ∧ y = b then Ln else L x y) := by
  have hnS : ∀ k, k < w.heap.size → lab k = none → (if S' k then some (a, b) else lab k) = none := by
    intro k hk hn
    by_cases hs : S' k
    · rcases hS k hs with h1 | h1
      · rw [hn] at h1; cases h1
      · omega
    · rw [if_neg hs]; exact hn
  have hnT : ∀ k, lab k = none → ¬ T k := fun k hk ht => by have := hT k ht; rw [hk] at this; cases this
  refine ⟨hf.bk h.hg (hnT _ h.lg), hf.bk h.hmq (hnT _ h.lq), hf.bk h.hmc (hnT _ h.lc), h.ne, h.born, h.small, ?_, ?_, h.cvals, hnS g (bk_lt h.hg) h.lg, hnS mq (bk_lt h.hmq) h.lq, hnS mc (bk_lt h.hmc) h.lc, ?_⟩
  · intro x y v hv
    by_cases hxy : x = a ∧ y = b
    · obtain ⟨rfl, rfl⟩ := hxy
      rw [hl] at hv
      injection hv with hv
      refine ⟨q, lv, hv.symm, ?_⟩
      rw [if_pos ⟨rfl, rfl⟩]
      exact QIs.mono hq fun k hk => by rw [if_pos hk]
    · obtain ⟨q', lv', e, hq'⟩ := h.vals x y v hv
      refine ⟨q', lv', e, ?_⟩
      rw [if_neg hxy]
      refine QIs.mono (hq'.fr hf ?_) ?_
      · intro k hk ht
        rw [hT k ht] at hk
        injection hk with hk; injection hk with h1 h2
        exact hxy ⟨h1.symm, h2.symm⟩
      · intro k hk
        rw [if_neg ?_]; exact hk
        intro hs
        rcases hS k hs with h1 | h1
        · rw [h1] at hk; injection hk with hk; injection hk with h2 h3
          exact hxy ⟨h2.symm, h3.symm⟩
        · have := h.lt k (by rw [hk]; rfl); omega
  · intro x y hv
    by_cases hxy : x = a ∧ y = b
    · obtain ⟨rfl, rfl⟩ := hxy; rw [hl] at hv; cases hv
    · rw [if_neg hxy]; exact h.empty x y hv
  · intro k hk
    by_cases hs : S' k
    · exact hlt k hs
    · rw [if_neg hs] at hk; exact Nat.lt_of_lt_of_le (h.lt k hk) hf.size

theorem netOf_setq (nodes : Int) (C : List Ent) (L : Int → Int → List (Nat × ByteArray)) (a b : Int) (Ln : List (Nat × ByteArray)) :
    netOf nodes C (fun x y => if x = a ∧ y = b then Ln else L x y) = (netOf nodes C L).setq a b (Ln.map (·.2)) := by
  unfold netOf NetS.setq
  congr 1
  funext x y
  by_cases h : x = a ∧ y = b
  · simp only [if_pos h]
  · simp only [if_neg h]

section
variable {w w1 w2 : World} {g mq mc : Nat} {nodes : Int} {C : List Ent} {cc : Nat} {lab : Nat → Option (Int × Int)} {L : Int → Int → List (Nat × ByteArray)} {a b : Int} {q : Nat} {E' : List Ent} {ck' : Nat} {lab' : Nat → Option (Int × Int)} {S : Nat → Prop}

/-- Behind 'of' alone: the network is what it was. -/
theorem OfPost.same (hp : OfPost w w1 g mq mc nodes C cc lab L a b q E' ck' lab') (hS : ∀ k, S k ↔ foot g mq mc lab k) : NetTo w w1 g S (netOf nodes C L) := by
  refine ⟨foot g mq mc lab', ⟨mq, mc, nodes, E', C, ck', cc, lab', L, hp.net, fun k => Iff.rfl, rfl⟩, hp.fr.weaken (fun k _ hk => (hS k).2 (.inr (.inl hk))), ?_⟩
  intro k hk
  rcases hp.new k with h | h
  · left
    refine (hS k).2 ?_
    unfold foot at hk ⊢
    rwa [h] at hk
  · exact .inr h

open Classical in
/-- .. and then the queue turned. -/
theorem OfPost.turned (hp : OfPost w w1 g mq mc nodes C cc lab L a b q E' ck' lab') (hS : ∀ k, S k ↔ foot g mq mc lab k) {T S' : Nat → Prop} (hf : Fr T w1 w2) (hT : ∀ k, T k → lab' k = some (a, b))
    {lv : Value} {Ln : List (Nat × ByteArray)} (hq : QIs w2 S' q lv Ln) (hS' : ∀ k, S' k → lab' k = some (a, b) ∨ w1.heap.size ≤ k) (hlt : ∀ k, S' k → k < w2.heap.size) :
    NetTo w w2 g S ((netOf nodes C L).setq a b (Ln.map (·.2))) := by
  have hn := NIs_update hp.net hp.lk hf hT hq hS' hlt
  have hin : ∀ k, k < w.heap.size → (lab' k).isSome = true → S k := by
    intro k hk hs
    rcases hp.new k with h | h
    · refine (hS k).2 (.inr (.inr (.inr ?_)))
      rwa [h] at hs
    · omega
  refine ⟨foot g mq mc (fun k => if S' k then some (a, b) else lab' k), ⟨mq, mc, nodes, E', C, ck', cc, _, _, hn, fun k => Iff.rfl, (netOf_setq _ _ _ _ _ _).symm⟩, ?_, ?_⟩
  · refine (hp.fr.weaken (fun k _ hk => (hS k).2 (.inr (.inl hk)))).trans' hf ?_
    intro k hk ht
    exact hin k hk (by rw [hT k ht]; rfl)
  · intro k hk
    by_cases hkk : w.heap.size ≤ k
    · exact .inr hkk
    · left
      rcases hk with rfl | rfl | rfl | hk
      · exact (hS _).2 (.inl rfl)
      · exact (hS _).2 (.inr (.inl rfl))
      · exact (hS _).2 (.inr (.inr (.inl rfl)))
      · by_cases hs : S' k
        · rcases hS' k hs with h1 | h1
          · exact hin k (by omega) (by rw [h1]; rfl)
          · have := hp.fr.size; omega
        · simp only [if_neg hs] at hk
          exact hin k (by omega) hk
end
end Go.Proofs.Ytamjclpopkfhmaa
