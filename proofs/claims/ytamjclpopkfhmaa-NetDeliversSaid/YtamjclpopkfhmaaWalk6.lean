/-
The walks of get, Count, Lose and Deliver over the network's data.
-/
import Derived.Test.YtamjclpopkfhmaaWalk5
set_option linter.unusedVariables false
set_option linter.unusedSimpArgs false
namespace Go.Proofs.Ytamjclpopkfhmaa
open Go.RowKit Go.NetKit

theorem get_q {w : World} {S : Nat → Prop} {q : Nat} {lv : Value} {L : List (Nat × ByteArray)} (h : QIs w S q lv L) (i : Nat) (hi : i < L.length) :
    Calls Try.prog 31 #[.pointer (some ⟨q, 0, none⟩), .int .i64 i] w fun e w' => e = .returned (.tuple #[msgV L[i], .bool true]) ∧ w' = w := by
  rcases h.own.2 with ⟨rfl, h0⟩ | ⟨g, cap, cur, rfl, _, hh, hnc, hcm, hcs, htk⟩
  · simp at h0; subst h0; simp at hi
  · rw [Nat.mul_one] at htk
    have hb : bk w g = some (.cells cur 38 (0, 0)) := hh
    refine get_yes' q g L.length cap i (msgV L[i]) w h.hq hi ?_ ⟨_, _, _, rfl⟩ (by simpa [maxLen] using Nat.le_trans hnc hcm)
    rw [cell?_bk hb]
    have hx : (cur.toList.take L.length)[i]? = (L.map msgV)[i]? := by rw [htk]
    rw [List.getElem?_take, if_pos hi, List.getElem?_map, List.getElem?_eq_getElem hi] at hx
    simpa using hx
theorem get_q_eq {w : World} {S : Nat → Prop} {q : Nat} {lv : Value} {L : List (Nat × ByteArray)} (h : QIs w S q lv L) (i : Nat) (hi : i < L.length) {m : Nat × ByteArray} (hm : L[i] = m) :
    Calls Try.prog 31 #[.pointer (some ⟨q, 0, none⟩), .int .i64 i] w fun e w' => e = .returned (.tuple #[.slice (some ⟨m.1, 0, none⟩) m.2.size m.2.size, .bool true]) ∧ w' = w := by
  subst hm; exact get_q h i hi
theorem get_q_no {w : World} {S : Nat → Prop} {q : Nat} {lv : Value} {L : List (Nat × ByteArray)} (h : QIs w S q lv L) (i : Int) (hi : i < 0 ∨ (L.length : Int) ≤ i) :
    Calls Try.prog 31 #[.pointer (some ⟨q, 0, none⟩), .int .i64 i] w fun e w' => e = .returned (.tuple #[.slice none 0 0, .bool false]) ∧ w' = w := by
  have : ∃ A c, lv = .slice A L.length c := by
    rcases h.own.2 with ⟨rfl, h0⟩ | ⟨g, cap, cur, rfl, _⟩
    · simp at h0; rw [h0]; exact ⟨none, 0, rfl⟩
    · exact ⟨_, cap, rfl⟩
  obtain ⟨A, c, rfl⟩ := this
  exact get_no q A L.length c i w h.hq hi

section
variable {w : World} {g mq mc : Nat} {nodes : Int} {E C : List Ent} {ck cc : Nat} {lab : Nat → Option (Int × Int)} {L : Int → Int → List (Nat × ByteArray)} {S : Nat → Prop}

set_option maxHeartbeats 400000 in
theorem count_good (h : NIs w g mq mc nodes E C ck cc lab L) (hS : ∀ k, S k ↔ foot g mq mc lab k) (a b : Int) (hok : (netOf nodes C L).ok a b = true) :
    Calls Try.prog 17 #[.pointer (some ⟨g, 0, none⟩), .int .i64 a, .int .i64 b] w fun e w' => e = .returned (.int .i64 (L a b).length) ∧ NetTo w w' g S (netOf nodes C L) := by
  have HG := Lib.hid (of_good h a b hok)
  have HS := Lib.hid hS
  clear h hok hS
  go_enter Try.func17, Try.ntmps17
  go_wp2_with (go_at_call 30; refine HG.out.mono ?_; rintro e w1 ⟨q, E', ck', lab', rfl, hp⟩; obtain ⟨r1, r2, r3, r4, r5, A, c, r6, r7, hQ⟩ := hp.reads)
  go_ret
  exact ⟨rfl, hp.same HS.out⟩

set_option maxHeartbeats 400000 in
theorem lose_none (h : NIs w g mq mc nodes E C ck cc lab L) (hS : ∀ k, S k ↔ foot g mq mc lab k) (a b i : Int) (hok : (netOf nodes C L).ok a b = true) (hi : i < 0 ∨ ((L a b).length : Int) ≤ i) :
    Calls Try.prog 16 #[.pointer (some ⟨g, 0, none⟩), .int .i64 a, .int .i64 b, .int .i64 i] w fun e w' => e = .returned (.int .i64 11) ∧ NetTo w w' g S (netOf nodes C L) := by
  have HG := Lib.hid (of_good h a b hok)
  have HS := Lib.hid hS
  have HI := Lib.hid hi
  clear h hok hS hi
  go_enter Try.func16, Try.ntmps16
  go_wp2_with (first
    | (go_at_call 30; refine HG.out.mono ?_; rintro e w1 ⟨q, E', ck', lab', rfl, hp⟩; obtain ⟨r1, r2, r3, r4, r5, A, c, r6, r7, hQ⟩ := hp.reads)
    | (go_at_call 31; refine (get_q_no hQ i HI.out).mono ?_; rintro e w2 ⟨rfl, rfl⟩))
  go_ret
  exact ⟨rfl, hp.same HS.out⟩

set_option maxHeartbeats 400000 in
theorem lose_good (h : NIs w g mq mc nodes E C ck cc lab L) (hS : ∀ k, S k ↔ foot g mq mc lab k) (a b : Int) (i : Nat) (hok : (netOf nodes C L).ok a b = true) (hi : i < (L a b).length) :
    Calls Try.prog 16 #[.pointer (some ⟨g, 0, none⟩), .int .i64 a, .int .i64 b, .int .i64 i] w fun e w' => e = .returned (.int .i64 0) ∧ NetTo w w' g S ((netOf nodes C L).setq a b (((L a b).eraseIdx i).map (·.2))) := by
  have HG := Lib.hid (of_good h a b hok)
  have HS := Lib.hid hS
  have HI := Lib.hid hi
  clear h hok hS hi
  go_enter Try.func16, Try.ntmps16
  go_wp2_with (first
    | (go_at_call 30; refine HG.out.mono ?_; rintro e w1 ⟨q, E', ck', lab', rfl, hp⟩; obtain ⟨r1, r2, r3, r4, r5, A, c, r6, r7, hQ⟩ := hp.reads)
    | (go_at_call 31; refine (get_q hQ i HI.out).mono ?_; rintro e w2 ⟨rfl, rfl⟩)
    | (go_at_call 32; refine (take_q hQ i HI.out).mono ?_; rintro e w2 ⟨rfl, hf, lv', hQ'⟩))
  go_ret
  exact ⟨rfl, hp.turned HS.out hf (fun _ hk => hk) hQ' (fun _ hk => .inl hk) (fun k hk => Nat.lt_of_lt_of_le (hp.net.lt k (by rw [hk]; rfl)) hf.size)⟩

theorem strOf_cells (s : ByteArray) : strOfNums (s.data.toList.map fun x => (x.toNat : Int)) = s := by
  unfold strOfNums
  rw [List.map_map]
  have : s.data.toList.map ((fun n : Int => UInt8.ofNat n.toNat) ∘ fun x : UInt8 => (x.toNat : Int)) = s.data.toList := by
    rw [List.map_congr_left (g := id)]
    · simp
    · intro x _; simp
  rw [this]
theorem conv_msg {W : World} {p : Nat × ByteArray} (h : bk W p.1 = some (.cells (cellsOf p.2) 5 (0, 0))) : (convert 38 9 (msgV p)).run Try.prog W = .ok (.string p.2) W := by
  have := run_convert_bytes_arg (P := Try.prog) W 38 5 Try.underlying38 Try.underlying5 p.1 0 p.2.size p.2.size (p.2.data.toList.map fun x => (x.toNat : Int)) (by simp) (fun i hi => by
    rw [cell?_bk h, Nat.zero_add]
    have hi' : i < p.2.data.size := hi
    have he : p.2.data[i]? = some p.2.data[i] := Array.getElem?_eq_getElem hi'
    simp [cellsOf, List.getD_eq_getElem?_getD, he]) 9 Try.underlying9
  rw [strOf_cells] at this
  exact this

set_option maxHeartbeats 400000 in
theorem deliver_cut (h : NIs w g mq mc nodes E C ck cc lab L) (hS : ∀ k, S k ↔ foot g mq mc lab k) (a b i : Int) (again : Bool) (hok : (netOf nodes C L).ok a b = true) (hc : cutOf C a b = true) :
    Calls Try.prog 22 #[.pointer (some ⟨g, 0, none⟩), .int .i64 a, .int .i64 b, .int .i64 i, .bool again] w fun e w' => e = .returned (.tuple #[.string ByteArray.empty, .int .i64 20]) ∧ NetTo w w' g S (netOf nodes C L) := by
  have hlk := lookup_cut h hc
  have HG := Lib.hid (of_good h a b hok)
  have HS := Lib.hid hS
  clear h hok hS hc
  by_cases hi : i < 0 ∨ ((L a b).length : Int) ≤ i
  · have HI := Lib.hid hi
    clear hi
    go_enter Try.func22, Try.ntmps22
    go_wp2_with (first
      | (go_at_call 30; refine HG.out.mono ?_; rintro e w1 ⟨q, E', ck', lab', rfl, hp⟩; obtain ⟨r1, r2, r3, r4, r5, A, c, r6, r7, hQ⟩ := hp.reads)
      | (go_at_call 31; refine (get_q_no hQ i HI.out).mono ?_; rintro e w2 ⟨rfl, rfl⟩))
    go_ret2
    exact ⟨rfl, hp.same HS.out⟩
  · obtain ⟨j, rfl⟩ := Int.eq_ofNat_of_zero_le (show 0 ≤ i by omega)
    have HI : Hid (j < (L a b).length) := show j < (L a b).length by omega
    clear hi
    go_enter Try.func22, Try.ntmps22
    go_wp2_with (first
      | (go_at_call 30; refine HG.out.mono ?_; rintro e w1 ⟨q, E', ck', lab', rfl, hp⟩; obtain ⟨r1, r2, r3, r4, r5, A, c, r6, r7, hQ⟩ := hp.reads)
      | (go_at_call 31; refine (get_q hQ j HI.out).mono ?_; rintro e w2 ⟨rfl, rfl⟩))
    go_ret2
    exact ⟨rfl, hp.same HS.out⟩

set_option maxHeartbeats 400000 in
theorem deliver_none (h : NIs w g mq mc nodes E C ck cc lab L) (hS : ∀ k, S k ↔ foot g mq mc lab k) (a b i : Int) (again : Bool) (hok : (netOf nodes C L).ok a b = true) (hc : cutOf C a b = false) (hi : i < 0 ∨ ((L a b).length : Int) ≤ i) :
    Calls Try.prog 22 #[.pointer (some ⟨g, 0, none⟩), .int .i64 a, .int .i64 b, .int .i64 i, .bool again] w fun e w' => e = .returned (.tuple #[.string ByteArray.empty, .int .i64 11]) ∧ NetTo w w' g S (netOf nodes C L) := by
  have hlk := lookup_cut h hc
  have HG := Lib.hid (of_good h a b hok)
  have HS := Lib.hid hS
  have HI := Lib.hid hi
  clear h hok hS hc hi
  go_enter Try.func22, Try.ntmps22
  go_wp2_with (first
    | (go_at_call 30; refine HG.out.mono ?_; rintro e w1 ⟨q, E', ck', lab', rfl, hp⟩; obtain ⟨r1, r2, r3, r4, r5, A, c, r6, r7, hQ⟩ := hp.reads)
    | (go_at_call 31; refine (get_q_no hQ i HI.out).mono ?_; rintro e w2 ⟨rfl, rfl⟩))
  go_ret2
  exact ⟨rfl, hp.same HS.out⟩

set_option maxHeartbeats 400000 in
theorem deliver_again (h : NIs w g mq mc nodes E C ck cc lab L) (hS : ∀ k, S k ↔ foot g mq mc lab k) (a b : Int) (i : Nat) (hok : (netOf nodes C L).ok a b = true) (hc : cutOf C a b = false) (hi : i < (L a b).length) :
    Calls Try.prog 22 #[.pointer (some ⟨g, 0, none⟩), .int .i64 a, .int .i64 b, .int .i64 i, .bool true] w fun e w' => e = .returned (.tuple #[.string (L a b)[i].2, .int .i64 0]) ∧ NetTo w w' g S (netOf nodes C L) := by
  have hlk := lookup_cut h hc
  have HG := Lib.hid (of_good h a b hok)
  have HS := Lib.hid hS
  have HI := Lib.hid hi
  clear h hok hS hc
  generalize hm : (L a b)[i] = m
  have HM := Lib.hid hm
  clear hm hi
  go_enter Try.func22, Try.ntmps22
  go_wp2_with (first
    | (go_at_call 30; refine HG.out.mono ?_; rintro e w1 ⟨q, E', ck', lab', rfl, hp⟩; obtain ⟨r1, r2, r3, r4, r5, A, c, r6, r7, hQ⟩ := hp.reads)
    | (go_at_call 31; refine (get_q_eq hQ i HI.out HM.out).mono ?_; rintro e w2 ⟨rfl, rfl⟩; have hcv := conv_msg (hQ.msg m (HM.out ▸ List.getElem_mem HI.out)); unfold msgV at hcv))
  go_ret2
  exact ⟨rfl, hp.same HS.out⟩

set_option maxHeartbeats 400000 in
theorem deliver_out (h : NIs w g mq mc nodes E C ck cc lab L) (hS : ∀ k, S k ↔ foot g mq mc lab k) (a b : Int) (i : Nat) (hok : (netOf nodes C L).ok a b = true) (hc : cutOf C a b = false) (hi : i < (L a b).length) :
    Calls Try.prog 22 #[.pointer (some ⟨g, 0, none⟩), .int .i64 a, .int .i64 b, .int .i64 i, .bool false] w fun e w' => e = .returned (.tuple #[.string (L a b)[i].2, .int .i64 0]) ∧ NetTo w w' g S ((netOf nodes C L).setq a b (((L a b).eraseIdx i).map (·.2))) := by
  have hlk := lookup_cut h hc
  have HG := Lib.hid (of_good h a b hok)
  have HS := Lib.hid hS
  have HI := Lib.hid hi
  clear h hok hS hc
  generalize hm : (L a b)[i] = m
  have HM := Lib.hid hm
  clear hm hi
  go_enter Try.func22, Try.ntmps22
  go_wp2_with (first
    | (go_at_call 30; refine HG.out.mono ?_; rintro e w1 ⟨q, E', ck', lab', rfl, hp⟩; obtain ⟨r1, r2, r3, r4, r5, A, c, r6, r7, hQ⟩ := hp.reads)
    | (go_at_call 31; refine (get_q_eq hQ i HI.out HM.out).mono ?_; rintro e w2 ⟨rfl, rfl⟩)
    | (go_at_call 32; refine (take_q2 hQ i HI.out).mono ?_; rintro e w2 ⟨rfl, hf, hm, lv', hQ'⟩; have hcv := conv_msg (hm m (HM.out ▸ List.getElem_mem HI.out)); unfold msgV at hcv))
  go_ret2
  exact ⟨rfl, hp.turned HS.out hf (fun _ hk => hk) hQ' (fun _ hk => .inl hk) (fun k hk => Nat.lt_of_lt_of_le (hp.net.lt k (by rw [hk]; rfl)) hf.size)⟩
end
end Go.Proofs.Ytamjclpopkfhmaa
