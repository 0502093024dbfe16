/-
of, New, Count and Lose over the network as plain data.
-/
import Derived.Test.YtamjclpopkfhmaaWalk2
set_option linter.unusedVariables false
set_option linter.unusedSimpArgs false
namespace Go.Proofs.Ytamjclpopkfhmaa
open Go.RowKit Go.NetKit

theorem QIs.mono {w : World} {S T : Nat → Prop} {q : Nat} {lv : Value} {L : List (Nat × ByteArray)} (h : QIs w S q lv L) (hs : ∀ k, S k → T k) : QIs w T q lv L :=
  ⟨h.hq, h.own, h.msg, h.nd, hs _ h.sq, fun k hk => hs k (h.sr k hk), fun p hp => hs _ (h.sm p hp)⟩
theorem QIs.lt {w : World} {S : Nat → Prop} {q : Nat} {lv : Value} {L : List (Nat × ByteArray)} (h : QIs w S q lv L) : q < w.heap.size := bk_lt h.hq

theorem ok_true {nodes : Int} {C : List Ent} {L : Int → Int → List (Nat × ByteArray)} {a b : Int} (h : (netOf nodes C L).ok a b = true) : 0 ≤ a ∧ 0 ≤ b ∧ a < nodes ∧ b < nodes ∧ a ≠ b := by
  exact of_decide_eq_true h
theorem ok_false {nodes : Int} {C : List Ent} {L : Int → Int → List (Nat × ByteArray)} {a b : Int} (h : (netOf nodes C L).ok a b = false) : a < 0 ∨ b < 0 ∨ nodes ≤ a ∨ nodes ≤ b ∨ a = b := by
  have h' : ¬ (0 ≤ a ∧ 0 ≤ b ∧ a < nodes ∧ b < nodes ∧ a ≠ b) := of_decide_eq_false h
  omega

/-- What 'of' leaves where the pair is right: the queue is there. -/
structure OfPost (w w' : World) (g mq mc : Nat) (nodes : Int) (C : List Ent) (cc : Nat) (lab : Nat → Option (Int × Int)) (L : Int → Int → List (Nat × ByteArray)) (a b : Int) (q : Nat) (E' : List Ent) (ck' : Nat) (lab' : Nat → Option (Int × Int)) : Prop where
  net : NIs w' g mq mc nodes E' C ck' cc lab' L
  lk : lk a b E' = some (.pointer (some ⟨q, 0, none⟩))
  fr : Fr (fun k => k = mq) w w'
  new : ∀ k, lab' k = lab k ∨ w.heap.size ≤ k

theorem OfPost.q {w w' : World} {g mq mc : Nat} {nodes : Int} {C : List Ent} {cc : Nat} {lab : Nat → Option (Int × Int)} {L : Int → Int → List (Nat × ByteArray)} {a b : Int} {q : Nat} {E' : List Ent} {ck' : Nat} {lab' : Nat → Option (Int × Int)}
    (h : OfPost w w' g mq mc nodes C cc lab L a b q E' ck' lab') : ∃ lv, QIs w' (fun k => lab' k = some (a, b)) q lv (L a b) := by
  obtain ⟨q', lv, e, hq⟩ := h.net.vals a b _ h.lk
  injection e with e; injection e with e; injection e with e
  subst e; exact ⟨lv, hq⟩

theorem of_good {w : World} {g mq mc : Nat} {nodes : Int} {E C : List Ent} {ck cc : Nat} {lab : Nat → Option (Int × Int)} {L : Int → Int → List (Nat × ByteArray)}
    (h : NIs w g mq mc nodes E C ck cc lab L) (a b : Int) (hok : (netOf nodes C L).ok a b = true) :
    Calls Try.prog 30 #[.pointer (some ⟨g, 0, none⟩), .int .i64 a, .int .i64 b] w fun e w' => ∃ q E' ck' lab', e = .returned (.tuple #[.pointer (some ⟨q,0,none⟩), .bool true]) ∧ OfPost w w' g mq mc nodes C cc lab L a b q E' ck' lab' := by
  obtain ⟨h0, h1, h2, h3, h4⟩ := ok_true hok
  have h4' : (a == b) = false := by simpa using h4
  have gq : ¬ g = mq := by rintro rfl; have := h.hg.symm.trans h.hmq; injection this with this; cases this
  have gc : ¬ g = mc := by rintro rfl; have := h.hg.symm.trans h.hmc; injection this with this; cases this
  cases hl : lk a b E with
  | none =>
    refine (of_new g mq mc nodes a b E ck w h.hg h.hmq h0 h1 h2 h3 h4' hl).mono ?_
    rintro e w' ⟨rfl, n, rfl⟩
    have lq := bk_lt h.hmq
    have hfr : Fr (fun k => k = mq) w ((setBk ((w.alloc (Obj.cells #[Value.int IntKind.i64 a, Value.int IntKind.i64 b] 45)).alloc (.cells #[.slice none 0 0] 70)) mq (.map (ents (put a b (.pointer (some ⟨w.heap.size+1,0,none⟩)) ck E)) (ck + 1))).drewN n) :=
      ((((Fr.refl (fun k => k = mq) w).alloc _).alloc _).setBk (fun _ => rfl) _).drewN n
    refine ⟨w.heap.size + 1, put a b (.pointer (some ⟨w.heap.size+1,0,none⟩)) ck E, ck + 1, fun k => if k = w.heap.size + 1 then some (a, b) else lab k, rfl, ?_, ?_, hfr, ?_⟩
    · refine ⟨hfr.bk h.hg gq, ?_, hfr.bk h.hmc (fun e => h.ne e.symm), h.ne, h.born, h.small, ?_, ?_, h.cvals, ?_, ?_, ?_, ?_⟩
      · rw [bk_drewN, bk_setBk (by simp; omega)]
      · intro x y v hv
        rw [lk_put] at hv
        by_cases hxy : x = a ∧ y = b
        · rw [if_pos hxy] at hv
          injection hv with hv
          obtain ⟨rfl, rfl⟩ := hxy
          refine ⟨w.heap.size + 1, .slice none 0 0, hv.symm, ?_, ?_, ?_, ?_, ?_, ?_, ?_⟩
          · rw [bk_drewN, bk_setBk_ne (by omega)]
            have := bk_alloc_new (w := w.alloc (Obj.cells #[Value.int IntKind.i64 x, Value.int IntKind.i64 y] 45)) (o := .cells #[.slice none 0 0] 70)
            rwa [World.size_alloc] at this
          · rw [h.empty x y hl]
            exact World.ownsRow_nil _ _ _ _
          · rw [h.empty x y hl]; simp
          · rw [h.empty x y hl]; simp
          · simp
          · simp [Value.ownBlock]
          · rw [h.empty x y hl]; simp
        · rw [if_neg hxy] at hv
          obtain ⟨q, lv, e, hq⟩ := h.vals x y v hv
          refine ⟨q, lv, e, QIs.mono (hq.fr hfr ?_) ?_⟩
          · rintro k hk rfl
            rw [h.lq] at hk; cases hk
          · intro k hk
            have := h.lt k (by rw [hk]; rfl)
            show (if _ then _ else _) = _
            rw [if_neg (by omega)]; exact hk
      · intro x y hv
        rw [lk_put] at hv
        by_cases hxy : x = a ∧ y = b
        · rw [if_pos hxy] at hv; cases hv
        · rw [if_neg hxy] at hv; exact h.empty x y hv
      · have := bk_lt h.hg
        show (if _ then _ else _) = _; rw [if_neg (by omega)]; exact h.lg
      · show (if _ then _ else _) = _; rw [if_neg (by omega)]; exact h.lq
      · have := bk_lt h.hmc
        show (if _ then _ else _) = _; rw [if_neg (by omega)]; exact h.lc
      · intro k hk
        have hz : ((setBk ((w.alloc (Obj.cells #[Value.int IntKind.i64 a, Value.int IntKind.i64 b] 45)).alloc (.cells #[.slice none 0 0] 70)) mq (.map (ents (put a b (.pointer (some ⟨w.heap.size+1,0,none⟩)) ck E)) (ck + 1))).drewN n).heap.size = w.heap.size + 2 := by
          rw [World.heap_drewN, size_setBk]; simp
        rw [hz]
        by_cases hkk : k = w.heap.size + 1
        · omega
        · rw [if_neg hkk] at hk
          have := h.lt k hk; omega
    · rw [lk_put, if_pos ⟨rfl, rfl⟩]
    · intro k
      by_cases hkk : k = w.heap.size + 1
      · exact .inr (by omega)
      · left; show (if _ then _ else _) = _; rw [if_neg hkk]
  | some v =>
    obtain ⟨q, lv, rfl, hq⟩ := h.vals a b v hl
    refine (of_old g mq mc q nodes a b E ck w h.hg h.hmq h0 h1 h2 h3 h4' hl).mono ?_
    rintro e w' ⟨rfl, n, rfl⟩
    have hfr : ∀ T, Fr T w ((w.alloc (Obj.cells #[Value.int IntKind.i64 a, Value.int IntKind.i64 b] 45)).drewN n) := fun T => ((Fr.refl _ w).alloc _).drewN n
    exact ⟨q, E, ck, lab, rfl, h.fr (hfr fun _ => False) (fun _ _ h => h), hl, hfr _, fun k => .inl rfl⟩

/-- The networks that an operation may be called on: none, or one in memory. -/
def NetP (w : World) (p : Option Addr) (S : Nat → Prop) (N : NetS) : Prop :=
  (p = none ∧ N = NetS.new 0 ∧ ∀ k, ¬ S k) ∨ ∃ g, p = some ⟨g, 0, none⟩ ∧ NetAt w g S N

theorem of_wrong {w : World} {p : Option Addr} {S : Nat → Prop} {N : NetS} (h : NetP w p S N) (a b : Int) (hok : N.ok a b = false) :
    Calls Try.prog 30 #[.pointer p, .int .i64 a, .int .i64 b] w fun e w' => e = .returned (.tuple #[.pointer none, .bool false]) ∧ w' = w := by
  rcases h with ⟨rfl, _⟩ | ⟨g, rfl, mq, mc, nodes, E, C, ck, cc, lab, L, h1, h2, rfl⟩
  · exact of_nil a b w
  · exact of_bad g mq mc nodes a b w h1.hg (ok_false hok)
end Go.Proofs.Ytamjclpopkfhmaa
