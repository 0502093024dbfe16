/-
Count, Lose, Deliver as wholes; the walks of Spoil and New.
-/
import Derived.Test.YtamjclpopkfhmaaWalk6
set_option linter.unusedVariables false
set_option linter.unusedSimpArgs false
namespace Go.Proofs.Ytamjclpopkfhmaa
open Go.RowKit Go.NetKit

set_option maxHeartbeats 400000 in
theorem count_wrong {w : World} {p : Option Addr} {S : Nat → Prop} {N : NetS} (h : NetP w p S N) (a b : Int) (hok : N.ok a b = false) :
    Calls Try.prog 17 #[.pointer p, .int .i64 a, .int .i64 b] w fun e w' => e = .returned (.int .i64 0) ∧ w' = w := by
  have HG := Lib.hid (of_wrong h a b hok)
  clear h hok
  go_enter Try.func17, Try.ntmps17
  go_wp2_with (go_at_call 30; refine HG.out.mono ?_; rintro e w' ⟨rfl, rfl⟩)
  go_ret
  exact ⟨rfl, rfl⟩
set_option maxHeartbeats 400000 in
theorem lose_wrong {w : World} {p : Option Addr} {S : Nat → Prop} {N : NetS} (h : NetP w p S N) (a b i : Int) (hok : N.ok a b = false) :
    Calls Try.prog 16 #[.pointer p, .int .i64 a, .int .i64 b, .int .i64 i] w fun e w' => e = .returned (.int .i64 1) ∧ w' = w := by
  have HG := Lib.hid (of_wrong h a b hok)
  clear h hok
  go_enter Try.func16, Try.ntmps16
  go_wp2_with (first
    | (go_at_call 30; refine HG.out.mono ?_; rintro e w' ⟨rfl, rfl⟩)
    | (go_at_call 31; refine (get_nil _ _).mono ?_; rintro e w' ⟨rfl, rfl⟩))
  go_ret
  exact ⟨rfl, rfl⟩
set_option maxHeartbeats 400000 in
theorem deliver_wrong {w : World} {p : Option Addr} {S : Nat → Prop} {N : NetS} (h : NetP w p S N) (a b i : Int) (again : Bool) (hok : N.ok a b = false) :
    Calls Try.prog 22 #[.pointer p, .int .i64 a, .int .i64 b, .int .i64 i, .bool again] w fun e w' => e = .returned (.tuple #[.string ByteArray.empty, .int .i64 1]) ∧ w' = w := by
  have HG := Lib.hid (of_wrong h a b hok)
  clear h hok
  go_enter Try.func22, Try.ntmps22
  go_wp2_with (first
    | (go_at_call 30; refine HG.out.mono ?_; rintro e w' ⟨rfl, rfl⟩)
    | (go_at_call 31; refine (get_nil _ _).mono ?_; rintro e w' ⟨rfl, rfl⟩))
  go_ret2
  exact ⟨rfl, rfl⟩

theorem has_yes {nodes : Int} {C : List Ent} {L : Int → Int → List (Nat × ByteArray)} {a b i : Int} (h : (netOf nodes C L).has a b i = true) : ∃ j : Nat, i = j ∧ j < (L a b).length := by
  have := of_decide_eq_true h
  simp only [netOf, List.length_map] at this
  exact ⟨i.toNat, by omega, by omega⟩
theorem has_no {nodes : Int} {C : List Ent} {L : Int → Int → List (Nat × ByteArray)} {a b i : Int} (h : (netOf nodes C L).has a b i = false) : i < 0 ∨ ((L a b).length : Int) ≤ i := by
  have := of_decide_eq_false h
  simp only [netOf, List.length_map] at this
  omega
theorem drop_netOf (nodes : Int) (C : List Ent) (L : Int → Int → List (Nat × ByteArray)) (a b : Int) (j : Nat) : (netOf nodes C L).drop a b j = (netOf nodes C L).setq a b (((L a b).eraseIdx j).map (·.2)) := by
  unfold NetS.drop
  have : (netOf nodes C L).q a b = (L a b).map (·.2) := rfl
  rw [this, Int.toNat_natCast, eraseIdx_map']
theorem msg_netOf (nodes : Int) (C : List Ent) (L : Int → Int → List (Nat × ByteArray)) (a b : Int) (j : Nat) (hj : j < (L a b).length) : (netOf nodes C L).msg a b j = (L a b)[j].2 := by
  unfold NetS.msg
  have : (netOf nodes C L).q a b = (L a b).map (·.2) := rfl
  rw [this, Int.toNat_natCast, List.getD_eq_getElem?_getD, List.getElem?_map, List.getElem?_eq_getElem hj]; rfl

theorem count_calls {w : World} {p : Option Addr} {S : Nat → Prop} {N : NetS} (h : NetP w p S N) (a b : Int) :
    Calls Try.prog 17 #[.pointer p, .int .i64 a, .int .i64 b] w fun e w' => e = .returned (.int .i64 (N.count a b)) ∧ NetToP w w' p S N := by
  unfold NetS.count
  by_cases hok : N.ok a b = false
  · rw [if_pos hok]
    refine (count_wrong h a b hok).mono ?_
    rintro e w' ⟨rfl, rfl⟩
    exact ⟨rfl, NetToP.same h⟩
  · rw [if_neg hok]
    have hok' : N.ok a b = true := by simpa using hok
    obtain ⟨g, rfl, mq, mc, nodes, E, C, ck, cc, lab, L, h1, h2, rfl⟩ := h.ok hok'
    have : (netOf nodes C L).q a b = (L a b).map (·.2) := rfl
    rw [this, List.length_map]
    exact (count_good h1 h2 a b hok').mono fun e w' hh => ⟨hh.1, NetTo.p hh.2⟩

theorem lose_calls {w : World} {p : Option Addr} {S : Nat → Prop} {N : NetS} (h : NetP w p S N) (a b i : Int) :
    Calls Try.prog 16 #[.pointer p, .int .i64 a, .int .i64 b, .int .i64 i] w fun e w' => e = .returned (.int .i64 (N.lose a b i).2) ∧ NetToP w w' p S (N.lose a b i).1 := by
  unfold NetS.lose
  by_cases hok : N.ok a b = false
  · rw [if_pos hok]
    refine (lose_wrong h a b i hok).mono ?_
    rintro e w' ⟨rfl, rfl⟩
    exact ⟨rfl, NetToP.same h⟩
  · rw [if_neg hok]
    have hok' : N.ok a b = true := by simpa using hok
    obtain ⟨g, rfl, mq, mc, nodes, E, C, ck, cc, lab, L, h1, h2, rfl⟩ := h.ok hok'
    by_cases hh : (netOf nodes C L).has a b i = false
    · rw [if_pos hh]
      exact (lose_none h1 h2 a b i hok' (has_no hh)).mono fun e w' hh => ⟨hh.1, NetTo.p hh.2⟩
    · rw [if_neg hh]
      obtain ⟨j, rfl, hj⟩ := has_yes (by simpa using hh)
      rw [drop_netOf]
      exact (lose_good h1 h2 a b j hok' hj).mono fun e w' hh => ⟨hh.1, NetTo.p hh.2⟩

theorem deliver_calls {w : World} {p : Option Addr} {S : Nat → Prop} {N : NetS} (h : NetP w p S N) (a b i : Int) (again : Bool) :
    Calls Try.prog 22 #[.pointer p, .int .i64 a, .int .i64 b, .int .i64 i, .bool again] w fun e w' => e = .returned (.tuple #[.string (N.deliver a b i again).2.1, .int .i64 (N.deliver a b i again).2.2]) ∧ NetToP w w' p S (N.deliver a b i again).1 := by
  unfold NetS.deliver
  by_cases hok : N.ok a b = false
  · rw [if_pos hok]
    refine (deliver_wrong h a b i again hok).mono ?_
    rintro e w' ⟨rfl, rfl⟩
    exact ⟨rfl, NetToP.same h⟩
  · rw [if_neg hok]
    have hok' : N.ok a b = true := by simpa using hok
    obtain ⟨g, rfl, mq, mc, nodes, E, C, ck, cc, lab, L, h1, h2, rfl⟩ := h.ok hok'
    have hcut : (netOf nodes C L).cut a b = cutOf C a b := rfl
    rw [hcut]
    by_cases hc : cutOf C a b = true
    · rw [if_pos hc]
      exact (deliver_cut h1 h2 a b i again hok' hc).mono fun e w' hh => ⟨hh.1, NetTo.p hh.2⟩
    · rw [if_neg hc]
      have hc' : cutOf C a b = false := by simpa using hc
      by_cases hh : (netOf nodes C L).has a b i = false
      · rw [if_pos hh]
        exact (deliver_none h1 h2 a b i again hok' hc' (has_no hh)).mono fun e w' hh => ⟨hh.1, NetTo.p hh.2⟩
      · rw [if_neg hh]
        obtain ⟨j, rfl, hj⟩ := has_yes (by simpa using hh)
        rw [msg_netOf _ _ _ _ _ _ hj, drop_netOf]
        cases again with
        | true => exact (deliver_again h1 h2 a b j hok' hc' hj).mono fun e w' hh => ⟨hh.1, NetTo.p hh.2⟩
        | false => exact (deliver_out h1 h2 a b j hok' hc' hj).mono fun e w' hh => ⟨hh.1, NetTo.p hh.2⟩

/-! New -/
set_option maxHeartbeats 400000 in
theorem new_bad (n : Int) (h : n < 1 ∨ 8 < n) (w : World) :
    Calls Try.prog 11 #[.int .i64 n] w fun e w' => e = .returned (.tuple #[.pointer none, .int .i64 1]) ∧ w' = w := by
  rcases h with h | h
  · go_enter Try.func11, Try.ntmps11
    go_wp2
    go_ret2
    exact ⟨rfl, rfl⟩
  · have h' : ¬ n < 1 := by omega
    go_enter Try.func11, Try.ntmps11
    go_wp2
    go_ret2
    exact ⟨rfl, rfl⟩
set_option maxHeartbeats 400000 in
theorem new_raw (n : Int) (h1 : 1 ≤ n) (h2 : n ≤ 8) (w : World) :
    Calls Try.prog 11 #[.int .i64 n] w fun e w' => e = .returned (.tuple #[.pointer (some ⟨w.heap.size+1+1,0,none⟩), .int .i64 0]) ∧
      w' = ((w.alloc (Obj.map #[] 0)).alloc (Obj.map #[] 0)).alloc (Obj.cells #[Value.int IntKind.i64 n, Value.map (some w.heap.size), Value.map (some (w.heap.size + 1))] 60) := by
  have hmk := @run_makeMap Try.prog
  go_enter Try.func11, Try.ntmps11
  go_wp2
  go_ret2
  exact ⟨rfl, rfl⟩

theorem new_net (n : Int) (h2 : n ≤ 8) (w : World) :
    NetTo w (((w.alloc (Obj.map #[] 0)).alloc (Obj.map #[] 0)).alloc (Obj.cells #[Value.int IntKind.i64 n, Value.map (some w.heap.size), Value.map (some (w.heap.size + 1))] 60)) (w.heap.size + 1 + 1) (fun _ => False) (NetS.new n) := by
  have b2 := bk_alloc_new (w := (w.alloc (Obj.map #[] 0)).alloc (Obj.map #[] 0)) (o := Obj.cells #[Value.int IntKind.i64 n, Value.map (some w.heap.size), Value.map (some (w.heap.size + 1))] 60)
  have b1 : bk (((w.alloc (Obj.map #[] 0)).alloc (Obj.map #[] 0)).alloc (Obj.cells #[Value.int IntKind.i64 n, Value.map (some w.heap.size), Value.map (some (w.heap.size + 1))] 60)) (w.heap.size + 1) = some (.map #[] 0) := by
    rw [bk_alloc_lt (by simp)]
    have := bk_alloc_new (w := w.alloc (Obj.map #[] 0)) (o := Obj.map #[] 0)
    rwa [World.size_alloc] at this
  have b0 : bk (((w.alloc (Obj.map #[] 0)).alloc (Obj.map #[] 0)).alloc (Obj.cells #[Value.int IntKind.i64 n, Value.map (some w.heap.size), Value.map (some (w.heap.size + 1))] 60)) w.heap.size = some (.map #[] 0) := by
    rw [bk_alloc_lt (by simp; omega), bk_alloc_lt (by simp)]
    exact bk_alloc_new
  simp only [World.size_alloc] at b2
  refine ⟨foot (w.heap.size + 1 + 1) w.heap.size (w.heap.size + 1) (fun _ => none), ⟨w.heap.size, w.heap.size + 1, n, [], [], 0, 0, fun _ => none, fun _ _ => [], ?_, fun _ => Iff.rfl, rfl⟩, (((Fr.refl _ w).alloc _).alloc _).alloc _, ?_⟩
  · exact ⟨b2, b0, b1, by omega, ⟨by simp, by simp⟩, h2, by simp [lk], fun _ _ _ => rfl, by simp [lk], rfl, rfl, rfl, by simp⟩
  · intro k hk
    right
    rcases hk with rfl | rfl | rfl | hk
    · omega
    · omega
    · omega
    · cases hk
end Go.Proofs.Ytamjclpopkfhmaa
