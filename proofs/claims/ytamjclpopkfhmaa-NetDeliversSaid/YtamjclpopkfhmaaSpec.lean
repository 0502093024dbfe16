/-
The network as plain data, and how it lies in memory.
-/
import Derived.Test.YtamjclpopkfhmaaMapKit
set_option linter.unusedVariables false
set_option linter.unusedSimpArgs false
namespace Go.NetKit
open Go.RowKit

/-- The queue of a network, as plain data. -/
structure NetS where
  nodes : Int
  q : Int → Int → List ByteArray
  cut : Int → Int → Bool

namespace NetS
def ok (N : NetS) (a b : Int) : Bool := decide (0 ≤ a ∧ 0 ≤ b ∧ a < N.nodes ∧ b < N.nodes ∧ a ≠ b)
def setq (N : NetS) (a b : Int) (l : List ByteArray) : NetS := { N with q := fun x y => if x = a ∧ y = b then l else N.q x y }
def setc (N : NetS) (a b : Int) (off : Bool) : NetS := { N with cut := fun x y => if x = a ∧ y = b ∨ x = b ∧ y = a then off else N.cut x y }
def send (N : NetS) (a b : Int) (s : ByteArray) : NetS × Int :=
  if N.ok a b = false then (N, 1) else if N.cut a b = true then (N, 20) else if 20000 < s.size then (N, 2) else if 100 ≤ (N.q a b).length then (N, 21)
  else (N.setq a b (N.q a b ++ [s]), 0)
def has (N : NetS) (a b i : Int) : Bool := decide (0 ≤ i ∧ i < (N.q a b).length)
def msg (N : NetS) (a b i : Int) : ByteArray := (N.q a b).getD i.toNat ByteArray.empty
def drop (N : NetS) (a b i : Int) : NetS := N.setq a b ((N.q a b).eraseIdx i.toNat)
def deliver (N : NetS) (a b i : Int) (again : Bool) : NetS × ByteArray × Int :=
  if N.ok a b = false then (N, ByteArray.empty, 1) else if N.cut a b = true then (N, ByteArray.empty, 20) else if N.has a b i = false then (N, ByteArray.empty, 11)
  else (if again then N else N.drop a b i, N.msg a b i, 0)
def lose (N : NetS) (a b i : Int) : NetS × Int :=
  if N.ok a b = false then (N, 1) else if N.has a b i = false then (N, 11) else (N.drop a b i, 0)
/-- A byte, some bits of it changed. -/
def flip (c : UInt8) (mask : Int) : UInt8 := c ^^^ UInt8.ofNat mask.toNat
def spoilt (s : ByteArray) (at_ mask : Int) : ByteArray := ⟨s.data.modify at_.toNat (flip · mask)⟩
def spoil (N : NetS) (a b i at_ mask : Int) : NetS × Int :=
  if N.ok a b = false ∨ mask < 1 ∨ 255 < mask then (N, 1)
  else if N.has a b i = false ∨ at_ < 0 ∨ ((N.msg a b i).size : Int) ≤ at_ then (N, 11)
  else (N.setq a b ((N.q a b).modify i.toNat (spoilt · at_ mask)), 0)
def cutS (N : NetS) (a b : Int) (off : Bool) : NetS × Int := if N.ok a b = false then (N, 1) else (N.setc a b off, 0)
def count (N : NetS) (a b : Int) : Int := if N.ok a b = false then 0 else (N.q a b).length
def new (nodes : Int) : NetS := ⟨nodes, fun _ _ => [], fun _ _ => false⟩
end NetS

/-- The cells of a text. -/
def cellsOf (s : ByteArray) : Array Value := s.data.map fun b => .int .u8 b.toNat
/-- A message, as a slice. -/
def msgV (p : Nat × ByteArray) : Value := .slice (some ⟨p.1, 0, none⟩) p.2.size p.2.size

/-- Block q of w is a queue whose messages are L (block, text); S has its blocks. -/
structure QIs (w : World) (S : Nat → Prop) (q : Nat) (lv : Value) (L : List (Nat × ByteArray)) : Prop where
  hq : bk w q = some (.cells #[lv] 70 (0, 0))
  own : w.ownsRow 0 38 1 lv L.length (L.map msgV)
  msg : ∀ p ∈ L, bk w p.1 = some (.cells (cellsOf p.2) 5 (0, 0))
  nd : (L.map (·.1)).Nodup
  sq : S q
  sr : ∀ k, lv.ownBlock = some k → S k
  sm : ∀ p ∈ L, S p.1

theorem ownsRow_fr {w w' : World} {T : Nat → Prop} {b e size n : Nat} {v : Value} {xs : List Value} (h : w.ownsRow b e size v n xs) (hf : Fr T w w') (hn : ∀ k, v.ownBlock = some k → ¬ T k) : w'.ownsRow b e size v n xs := by
  refine ⟨h.1, ?_⟩
  rcases h.2 with h2 | ⟨g, cap, cur, rfl, hb, hh, r⟩
  · exact .inl h2
  · exact .inr ⟨g, cap, cur, rfl, hb, (hf.bk (k := g) hh (hn g rfl)), r⟩

theorem QIs.fr {w w' : World} {S T : Nat → Prop} {q : Nat} {lv : Value} {L : List (Nat × ByteArray)} (h : QIs w S q lv L) (hf : Fr T w w') (hn : ∀ k, S k → ¬ T k) : QIs w' S q lv L :=
  ⟨hf.bk h.hq (hn _ h.sq), ownsRow_fr h.own hf (fun k hk => hn k (h.sr k hk)), fun p hp => hf.bk (h.msg p hp) (hn _ (h.sm p hp)), h.nd, h.sq, h.sr, h.sm⟩

/-- Borns of a map's entries: below the clock, each once. -/
def Born (C : List Ent) (clk : Nat) : Prop := (∀ e ∈ C, e.born < clk) ∧ (C.map (·.born)).Nodup

/-- Block g of w is a network. -/
structure NIs (w : World) (g mq mc : Nat) (nodes : Int) (E C : List Ent) (ck cc : Nat) (lab : Nat → Option (Int × Int)) (L : Int → Int → List (Nat × ByteArray)) : Prop where
  hg : bk w g = some (.cells #[.int .i64 nodes, .map (some mq), .map (some mc)] 60 (0, 0))
  hmq : bk w mq = some (.map (ents E) ck)
  hmc : bk w mc = some (.map (ents C) cc)
  ne : mq ≠ mc
  born : Born C cc
  small : nodes ≤ 8
  vals : ∀ a b v, lk a b E = some v → ∃ q lv, v = .pointer (some ⟨q, 0, none⟩) ∧ QIs w (fun k => lab k = some (a, b)) q lv (L a b)
  empty : ∀ a b, lk a b E = none → L a b = []
  cvals : ∀ a b v, lk a b C = some v → ∃ x, v = .bool x
  lg : lab g = none
  lq : lab mq = none
  lc : lab mc = none
  lt : ∀ k, (lab k).isSome → k < w.heap.size

def foot (g mq mc : Nat) (lab : Nat → Option (Int × Int)) (k : Nat) : Prop := k = g ∨ k = mq ∨ k = mc ∨ (lab k).isSome = true

def cutOf (C : List Ent) (a b : Int) : Bool := match lk a b C with | some (.bool x) => x | _ => false
def netOf (nodes : Int) (C : List Ent) (L : Int → Int → List (Nat × ByteArray)) : NetS := ⟨nodes, fun a b => (L a b).map (·.2), cutOf C⟩

theorem NIs.fr {w w' : World} {T : Nat → Prop} {g mq mc : Nat} {nodes : Int} {E C : List Ent} {ck cc : Nat} {lab : Nat → Option (Int × Int)} {L : Int → Int → List (Nat × ByteArray)}
    (h : NIs w g mq mc nodes E C ck cc lab L) (hf : Fr T w w') (hn : ∀ k, foot g mq mc lab k → ¬ T k) : NIs w' g mq mc nodes E C ck cc lab L :=
  ⟨hf.bk h.hg (hn _ (.inl rfl)), hf.bk h.hmq (hn _ (.inr (.inl rfl))), hf.bk h.hmc (hn _ (.inr (.inr (.inl rfl)))), h.ne, h.born, h.small,
    fun a b v hv => let ⟨q, lv, e, hq⟩ := h.vals a b v hv; ⟨q, lv, e, hq.fr hf fun k hk => hn k (.inr (.inr (.inr (by rw [hk]; rfl))))⟩,
    h.empty, h.cvals, h.lg, h.lq, h.lc, fun k hk => Nat.lt_of_lt_of_le (h.lt k hk) hf.size⟩

/-- .. with the blocks S. -/
def NetAt (w : World) (g : Nat) (S : Nat → Prop) (N : NetS) : Prop :=
  ∃ mq mc nodes E C ck cc lab L, NIs w g mq mc nodes E C ck cc lab L ∧ (∀ k, S k ↔ foot g mq mc lab k) ∧ N = netOf nodes C L

theorem NetAt.fr {w w' : World} {T S : Nat → Prop} {g : Nat} {N : NetS} (h : NetAt w g S N) (hf : Fr T w w') (hn : ∀ k, S k → ¬ T k) : NetAt w' g S N := by
  obtain ⟨mq, mc, nodes, E, C, ck, cc, lab, L, h1, h2, h3⟩ := h
  exact ⟨mq, mc, nodes, E, C, ck, cc, lab, L, h1.fr hf (fun k hk => hn k ((h2 k).2 hk)), h2, h3⟩

theorem NetAt.lt {w : World} {S : Nat → Prop} {g : Nat} {N : NetS} (h : NetAt w g S N) : ∀ k, S k → k < w.heap.size := by
  obtain ⟨mq, mc, nodes, E, C, ck, cc, lab, L, h1, h2, h3⟩ := h
  intro k hk
  rcases (h2 k).1 hk with rfl | rfl | rfl | h
  · exact bk_lt h1.hg
  · exact bk_lt h1.hmq
  · exact bk_lt h1.hmc
  · exact h1.lt k h

/-- What an operation leaves: the network, turned; nothing else has turned. -/
def NetTo (w w' : World) (g : Nat) (S : Nat → Prop) (N' : NetS) : Prop :=
  ∃ S', NetAt w' g S' N' ∧ Fr S w w' ∧ ∀ k, S' k → S k ∨ w.heap.size ≤ k

end Go.NetKit
