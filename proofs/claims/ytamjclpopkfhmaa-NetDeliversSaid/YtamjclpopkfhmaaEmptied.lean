/-
The walks of emptied and all: what a law reads of a network in the end.
-/
import Derived.Test.YtamjclpopkfhmaaOps
set_option linter.unusedVariables false
set_option linter.unusedSimpArgs false
namespace Go.Proofs.Ytamjclpopkfhmaa
open Go.RowKit Go.NetKit

theorem Try.info9 : (Try.prog.info? 9).map (fun i => (i.zero, i.size, i.bytes)) = some (some (.string ByteArray.empty), 1, 16) := by kernel_rfl
theorem Try.info46 : (Try.prog.info? 46).map (fun i => (i.zero, i.size, i.bytes)) = some (some (.slice none 0 0), 1, 24) := by kernel_rfl

/-- A row of the law's own, told apart from a network's blocks. -/
structure Mine (w wr : World) (S' : Nat → Prop) (e : TypeId) (v : Value) (xs : List Value) : Prop where
  own : wr.ownsRow 0 e 1 v xs.length xs
  new : ∀ k, v.ownBlock = some k → w.heap.size ≤ k ∧ ¬ S' k ∧ k < wr.heap.size

theorem Mine.nil (w wr : World) (S' : Nat → Prop) (e : TypeId) : Mine w wr S' e (.slice none 0 0) [] := ⟨World.ownsRow_nil _ _ _ _, fun k hk => by cases hk⟩
theorem Mine.form {w wr : World} {S' : Nat → Prop} {e : TypeId} {v : Value} {xs : List Value} (h : Mine w wr S' e v xs) : ∃ A c, v = .slice A xs.length c := by
  rcases h.own.2 with ⟨rfl, h0⟩ | ⟨g, cap, cur, rfl, _⟩
  · rw [h0]; exact ⟨none, 0, rfl⟩
  · exact ⟨_, cap, rfl⟩
theorem Mine.fr {w wr w2 : World} {S' S2 : Nat → Prop} {e : TypeId} {v : Value} {xs : List Value} (h : Mine w wr S' e v xs) (hf : Fr S' wr w2) (hs : ∀ k, S2 k → S' k ∨ wr.heap.size ≤ k) : Mine w w2 S2 e v xs :=
  ⟨ownsRow_fr h.own hf (fun k hk => (h.new k hk).2.1), fun k hk => ⟨(h.new k hk).1, fun h2 => by
    rcases hs k h2 with h3 | h3
    · exact (h.new k hk).2.1 h3
    · have := (h.new k hk).2.2; omega, Nat.lt_of_lt_of_le (h.new k hk).2.2 hf.size⟩⟩

theorem push_mine {w wr : World} {S' : Nat → Prop} {t e : TypeId} {v z : Value} {xs : List Value} {bytes : Nat} (h : Mine w wr S' e v xs) (hw : w.heap.size ≤ wr.heap.size) (hS : ∀ k, S' k → k < wr.heap.size)
    (ht : Try.prog.underlying t = some (.slice e)) (hinfo : (Try.prog.info? e).map (fun i => (i.zero, i.size, i.bytes)) = some (some z, 1, bytes)) (hz : z.cells.size = 1) (y : Value) (h1 : y.oneCell' = true) (hn : xs.length + 1 ≤ 1000000) (hb : bytes ≤ 1000000) :
    ∃ v' w', (∀ ty, (Builtin.append_ #[t, t] ty #[v, .slice (some ⟨wr.heap.size, 0, none⟩) 1 1]).run Try.prog (wr.alloc (.cells #[y] e)) = .ok v' w') ∧ Mine w w' S' e v' (xs ++ [y]) ∧ Fr (fun k => v.ownBlock = some k) wr w' := by
  obtain ⟨v', w', hr, hown, hfr, hnew⟩ := run_append_push (P := Try.prog) wr ht hinfo hz v xs.length xs y h.own h1 hn hb
  refine ⟨v', w', hr, ⟨by simpa using hown, ?_⟩, hfr⟩
  intro k hk
  have hlt : k < w'.heap.size := by
    rcases hown.2 with ⟨h0, _⟩ | ⟨g, cap, cur, hv, _, hh, _⟩
    · rw [h0] at hk; cases hk
    · rw [hv] at hk; injection hk with hk; subst hk; exact bk_lt (n := g) hh
  rcases hnew k hk with h2 | h2
  · exact ⟨(h.new k h2).1, (h.new k h2).2.1, hlt⟩
  · exact ⟨by omega, fun hs => by have := hS k hs; omega, hlt⟩

/-- What emptied knows: k messages are out. -/
def Em (w wr : World) (p : Option Addr) (S : Nat → Prop) (v : Value) (out : List ByteArray) (N' : NetS) : Prop :=
  ∃ S', NetP wr p S' N' ∧ Fr S w wr ∧ (∀ k, S' k → S k ∨ w.heap.size ≤ k) ∧ Mine w wr S' 9 v (out.map .string)

theorem Em.op {w wr : World} {p : Option Addr} {S : Nat → Prop} {v : Value} {out : List ByteArray} {N N' : NetS} (h : Em w wr p S v out N) {f : FuncId} {args : Array Value} {r : Value}
    (hc : ∀ S, NetP wr p S N → Calls Try.prog f args wr fun e w' => e = .returned r ∧ NetToP wr w' p S N') :
    Calls Try.prog f args wr fun e w' => e = .returned r ∧ Em w w' p S v out N' := by
  obtain ⟨S', g1, g2, g3, g4⟩ := h
  refine (hc S' g1).mono ?_
  rintro e w2 ⟨rfl, S2, k1, k2, k3⟩
  refine ⟨rfl, S2, k1, g2.trans' k2 ?_, ?_, g4.fr k2 k3⟩
  · intro k hk hs
    rcases g3 k hs with h | h
    · exact h
    · omega
  · intro k hk
    rcases k3 k hk with h | h
    · exact g3 k h
    · have := g2.size; exact .inr (by omega)

theorem Em.form {w wr : World} {p : Option Addr} {S : Nat → Prop} {v : Value} {out : List ByteArray} {N : NetS} (h : Em w wr p S v out N) : ∃ A c, v = .slice A out.length c := by
  obtain ⟨S', g1, g2, g3, g4⟩ := h
  obtain ⟨A, c, e⟩ := g4.form
  rw [List.length_map] at e
  exact ⟨A, c, e⟩
theorem Em.push {w wr : World} {p : Option Addr} {S : Nat → Prop} {v : Value} {out : List ByteArray} {N : NetS} (h : Em w wr p S v out N) (s : ByteArray) (hn : out.length ≤ 110) :
    ∃ v' w', (∀ ty, (Builtin.append_ #[46, 46] ty #[v, .slice (some ⟨wr.heap.size, 0, none⟩) 1 1]).run Try.prog (wr.alloc (.cells #[.string s] 9)) = .ok v' w') ∧ Em w w' p S v' (out ++ [s]) N := by
  obtain ⟨S', g1, g2, g3, g4⟩ := h
  obtain ⟨v', w', hr, hm, hf⟩ := push_mine g4 g2.size g1.lt Try.underlying46 Try.info9 rfl (.string s) rfl (by simp; omega) (by omega)
  refine ⟨v', w', hr, S', g1.fr hf (fun k hk e => (g4.new k e).2.1 hk), g2.trans' hf (fun k hk e => by have := (g4.new k e).1; omega), g3, ?_⟩
  rw [List.map_append]; exact hm

theorem setq_again (N : NetS) (a b : Int) (l m : List ByteArray) : (N.setq a b l).setq a b m = N.setq a b m := by
  unfold NetS.setq
  congr 1
  funext x y
  by_cases hx : x = a ∧ y = b
  · simp [hx]
  · simp [hx]
theorem take_more (l : List ByteArray) (k : Nat) (hk : k < l.length) : l.take (k + 1) = l.take k ++ [l[k]] := by
  rw [List.take_succ_eq_append_getElem hk]
/-- The network when k messages of a queue are out. -/
def outN (N : NetS) (a b : Int) (k : Nat) : NetS := N.setq a b ((N.q a b).drop k)
theorem outN_zero (N : NetS) (a b : Int) : outN N a b 0 = N := by
  unfold outN NetS.setq
  cases N with
  | mk n q c =>
    congr 1
    funext x y
    by_cases h : x = a ∧ y = b
    · rw [if_pos h, h.1, h.2]; rfl
    · rw [if_neg h]
theorem outN_deliver (N : NetS) (a b : Int) (hok : N.ok a b = true) (hc : N.cut a b = false) (k : Nat) (hk : k < (N.q a b).length) :
    (outN N a b k).deliver a b 0 false = (outN N a b (k + 1), (N.q a b)[k], 0) := by
  have hq : (outN N a b k).q a b = (N.q a b).drop k := by simp [outN, NetS.setq]
  unfold NetS.deliver
  have h1 : (outN N a b k).ok a b = true := hok
  have h2 : (outN N a b k).cut a b = false := hc
  have h3 : (outN N a b k).has a b 0 = true := by
    unfold NetS.has; rw [hq]; simp; omega
  rw [h1, h2, h3]
  simp only [Bool.true_eq_false, Bool.false_eq_true, if_false]
  have e1 : (outN N a b k).drop a b 0 = outN N a b (k + 1) := by
    unfold NetS.drop
    rw [hq]
    have : ((N.q a b).drop k).eraseIdx (0 : Int).toNat = (N.q a b).drop (k + 1) := by
      show ((N.q a b).drop k).eraseIdx 0 = _
      rw [List.eraseIdx_zero, List.tail_drop]
    rw [this]
    unfold outN
    exact setq_again N a b _ _
  have e2 : (outN N a b k).msg a b 0 = (N.q a b)[k] := by
    unfold NetS.msg; rw [hq]
    show ((N.q a b).drop k).getD 0 _ = _
    rw [List.getD_eq_getElem?_getD, List.getElem?_drop, Nat.add_zero, List.getElem?_eq_getElem hk]; rfl
  rw [e1, e2]
theorem outN_none (N : NetS) (a b : Int) (hok : N.ok a b = true) (hc : N.cut a b = false) (k : Nat) (hk : (N.q a b).length ≤ k) :
    (outN N a b k).deliver a b 0 false = (outN N a b k, ByteArray.empty, 11) := by
  have hq : (outN N a b k).q a b = [] := by simp [outN, NetS.setq, hk]
  unfold NetS.deliver
  have h1 : (outN N a b k).ok a b = true := hok
  have h2 : (outN N a b k).cut a b = false := hc
  have h3 : (outN N a b k).has a b 0 = false := by
    unfold NetS.has; rw [hq]; simp
  rw [h1, h2, h3]
  simp

set_option maxHeartbeats 1000000 in
theorem emptied_good {w : World} {p : Option Addr} {S : Nat → Prop} {N : NetS} (h : NetP w p S N) (a b : Int) (hok : N.ok a b = true) (hc : N.cut a b = false) :
    Calls Try.prog 33 #[.pointer p, .int .i64 a, .int .i64 b] w fun e w' => ∃ v, e = .returned v ∧ ∃ N', N'.nodes = N.nodes ∧ (∀ x y, ¬ (x = a ∧ y = b) → N'.q x y = N.q x y) ∧ N'.cut = N.cut ∧ Em w w' p S v ((N.q a b).take 110) N' := by
  have HE : Hid (Em w w p S (.slice none 0 0) [] N) := ⟨S, h, Fr.refl _ _, fun k hk => .inl hk, Mine.nil _ _ _ _⟩
  have HO := Lib.hid (And.intro hok hc)
  clear h hok hc
  go_enter Try.func33, Try.ntmps33
  go_wp2_with fail
  go_loopw [7, 8] (fun v i wr => ∃ (k : Nat) (A : Option Addr) (c : Nat), k ≤ 110 ∧ k ≤ (N.q a b).length ∧ v = .slice A k c ∧ i = .int .i64 k ∧ Em w wr p S (.slice A k c) ((N.q a b).take k) (outN N a b k)) (fun _ i _ => 110 - (intOf i).toNat)
  case atStart =>
    refine ⟨0, none, 0, by omega, Nat.zero_le _, rfl, rfl, ?_⟩
    rw [outN_zero]; exact HE.out
  case round =>
    obtain ⟨k, A, c, hk, hkl, rfl, rfl, he⟩ := hrel
    have HW := Lib.hid he; clear he
    by_cases hlt : k < 110
    · have hk1 : (k : Int) < 110 := by omega
      by_cases hl : k < (N.q a b).length
      · go_wp2_with fail
        refine (HW.out.op (fun S' hS => by
          have := deliver_calls hS a b 0 false
          rw [outN_deliver N a b HO.out.1 HO.out.2 k hl] at this; exact this)).mono ?_
        rintro e w2 ⟨rfl, he2⟩
        obtain ⟨v', w3, hr, he3⟩ := he2.push (N.q a b)[k] (by simp; omega)
        rw [← take_more _ _ hl] at he3
        obtain ⟨A', c', rfl⟩ := he3.form
        rw [List.length_take, Nat.min_eq_left (by omega)] at he3 hr
        have H3 := Lib.hid he3
        have HR := Lib.hid hr
        clear he2 he3 hr
        go_wp2_with (at_builtin; refine wpList_builtin rfl .append #[.tmp 24, .tmp 26] #[46, 46] rfl #[.slice A k c, .slice (some ⟨w2.heap.size, 0, none⟩) 1 1] (by simp [Act.eval]) (ran_append HR.out) ?_)
        go_roundw
        case rel => exact ⟨k + 1, A', c', by omega, by omega, rfl, by go_num, H3.out⟩
        case measure => simp [intOf]; omega
      · go_wp2_with fail
        refine (HW.out.op (fun S' hS => by
          have := deliver_calls hS a b 0 false
          rw [outN_none N a b HO.out.1 HO.out.2 k (by omega)] at this; exact this)).mono ?_
        rintro e w2 ⟨rfl, he2⟩
        have H2 := Lib.hid he2; clear he2
        go_wp2_with fail
        go_ret
        refine ⟨.slice A k c, rfl, outN N a b k, rfl, ?_, rfl, ?_⟩
        · intro x y hxy; simp [outN, NetS.setq, hxy]
        · have := H2.out
          rw [List.take_of_length_le (by omega)] at this ⊢
          · exact this
    · obtain rfl : k = 110 := by omega
      go_wp2_with fail
      go_ret
      refine ⟨.slice A 110 c, rfl, outN N a b 110, rfl, ?_, rfl, HW.out⟩
      intro x y hxy; simp [outN, NetS.setq, hxy]

set_option maxHeartbeats 1000000 in
theorem emptied_wrong {w : World} {p : Option Addr} {S : Nat → Prop} {N : NetS} (h : NetP w p S N) (a b : Int) (hok : N.ok a b = false) :
    Calls Try.prog 33 #[.pointer p, .int .i64 a, .int .i64 b] w fun e w' => e = .returned (.slice none 0 0) ∧ w' = w := by
  have HG := Lib.hid (deliver_wrong h a b 0 false hok)
  clear h hok
  go_enter Try.func33, Try.ntmps33
  go_wp2_with fail
  refine wp_loop_once ?_
  go_wp2_with (go_at_call 22; refine HG.out.mono ?_; rintro e w' ⟨rfl, rfl⟩)
  go_ret
  exact ⟨rfl, rfl⟩
end Go.Proofs.Ytamjclpopkfhmaa
