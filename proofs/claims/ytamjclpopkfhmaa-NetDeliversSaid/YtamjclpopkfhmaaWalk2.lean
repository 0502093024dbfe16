/-
The walks of slices.Delete and of the queue's take.
-/
import Derived.Test.YtamjclpopkfhmaaWalk1
import Derived.Test.YtamjclpopkfhmaaRunKit
set_option linter.unusedVariables false
set_option linter.unusedSimpArgs false
namespace Go.Proofs.Ytamjclpopkfhmaa
open Go.RowKit Go.NetKit
theorem setBk_setBk {w : World} {g : Nat} {a b : Obj} : setBk (setBk w g a) g b = setBk w g b := by simp [setBk]
theorem Try.info38 : (Try.prog.info? 38).map (fun i => (i.zero, i.size)) = some (some (.slice none 0 0), 1) := by kernel_rfl
def cutRow (cur : Array Value) (i n : Nat) : Array Value := (cur.toList.take i ++ (cur.toList.drop (i + 1)).take (n - (i + 1)) ++ cur.toList.drop (n - 1)).toArray
def cutRow2 (cur : Array Value) (n : Nat) : Array Value := (cur.toList.take (n - 1) ++ [Value.slice none 0 0] ++ cur.toList.drop (n - 1 + 1)).toArray
set_option maxHeartbeats 400000 in
theorem delete_raw (g n c i : Nat) (cur : Array Value) (w : World) (hg : bk w g = some (.cells cur 38 (0, 0))) (hc : cur.size = c) (hn : n ≤ c) (hm : c ≤ 9223372036854775807) (hi : i < n)
    (hone : ∀ k, k < n → ∃ v, cur[k]? = some v ∧ v.oneCell' = true) :
    Calls Try.prog 38 #[.slice (some ⟨g, 0, none⟩) n c, .int .i64 i, .int .i64 (i + 1)] w fun e w' => e = .returned (.slice (some ⟨g, 0, none⟩) (n - 1) c) ∧
      ∃ d, w' = (setBk w g (.cells (cutRow2 (cutRow cur i n) n) 38 (0, 0))).drewN d := by
  have e1 : ((i : Int) == (i : Int) + 1) = false := by simp; omega
  have hcs : (cutRow cur i n).size = c := by simp [cutRow]; omega
  have happ : ∀ (a : Addr) ty W, bk W g = some (.cells cur 38 (0, 0)) → (n - (i + 1) = 0 ∨ a = ⟨g, i + 1, none⟩) → (Builtin.append_ #[68, 68] ty #[.slice (some ⟨g, 0, none⟩) i c, .slice (some a) (n - (i + 1)) (c - (i + 1))]).run Try.prog W = .ok (.slice (some ⟨g, 0, none⟩) (n - 1) c) (setBk W g (.cells (cutRow cur i n) 38 (0, 0))) := by
    intro a ty W h ha
    obtain ⟨inf, hinf, hz⟩ := Option.map_eq_some_iff.1 Try.info38
    simp only [Prod.mk.injEq] at hz
    have := run_append_cut (P := Try.prog) W Try.underlying68 hinf hz.2 (ty := ty) g i (n - (i + 1)) (i + 1) c (c - (i + 1)) cur a h ha (by omega) (by omega) (by omega) (fun k h1 h2 => hone k (by omega))
    rw [this, show i + (n - (i + 1)) = n - 1 from by omega]; rfl
  have hclr : ∀ ty W, bk W g = some (.cells (cutRow cur i n) 38 (0, 0)) → (Builtin.clear_ #[68] ty #[.slice (some ⟨g, n - 1, none⟩) 1 (c - (n - 1))]).run Try.prog W = .ok (.tuple #[]) (setBk W g (.cells (cutRow2 (cutRow cur i n) n) 38 (0, 0))) := by
    intro ty W h
    obtain ⟨inf, hinf, hz⟩ := Option.map_eq_some_iff.1 Try.info38
    simp only [Prod.mk.injEq] at hz
    exact run_clear_one (P := Try.prog) W Try.underlying68 hinf hz.1 rfl rfl g (n - 1) (c - (n - 1)) _ h (by omega)
  have lg := bk_lt hg
  clear hcs hone
  by_cases hcap : i + 1 = n
  · subst hcap
    have hce : cutRow cur i (i + 1) = cur := by
      apply Array.ext'
      simp [cutRow]
    have hcl2 : ∀ ty W, bk W g = some (.cells cur 38 (0, 0)) → (Builtin.clear_ #[68] ty #[.slice (some ⟨g, i, none⟩) 1 (c - i)]).run Try.prog W = .ok (.tuple #[]) (setBk W g (.cells (cutRow2 (cutRow cur i (i + 1)) (i + 1)) 38 (0, 0))) := by
      intro ty W h
      have := hclr ty W (by rw [hce]; exact h)
      simpa using this
    have hic : i ≤ c := by omega
    have hin : i ≤ i + 1 := by omega
    have hz1 : 0 ≤ (i : Int) + 1 := by omega
    have h3 : i + 1 - i = 1 := by omega
    clear hclr happ hce hc
    by_cases hcc : c = i + 1
    · subst hcc
      simp only [Nat.add_sub_cancel_left] at hcl2
      go_enter Try.func38, Try.ntmps38
      go_wp2
      go_region
      go_wp2
      go_ret
      exact ⟨by simp, 1, rfl⟩
    · go_enter Try.func38, Try.ntmps38
      go_wp2
      go_region
      go_wp2
      go_ret
      exact ⟨by simp, 1, rfl⟩
  · have h1 : i + 1 < c := by omega
    have happ' := Lib.hid (fun ty W h => happ ⟨g, i + 1, none⟩ ty W h (.inr rfl))
    have hic : i ≤ c := by omega
    have hin : i + 1 ≤ n := by omega
    have hne : ¬ c = i + 1 := by omega
    have h5 : n - 1 ≤ n := by omega
    have h6 : n - 1 ≤ c := by omega
    have hz1 : 0 ≤ (i : Int) + 1 := by omega
    have hz2 : (i : Int) + 1 ≤ (n : Int) := by omega
    have h2 : n - 1 < n := by omega
    have h3 : n - (n - 1) = 1 := by omega
    have h4 : n - 1 < c := by omega
    clear happ hc
    go_enter Try.func38, Try.ntmps38
    go_wp2
    go_region_law (refine step_builtin rfl .append #[.tmp 22, .tmp 25] #[68, 68] rfl #[.slice (some ⟨g, 0, none⟩) i c, .slice (some ⟨g, i + 1, none⟩) (n - (i + 1)) (c - (i + 1))] (by simp [Act.eval, Act.put]) (ran_append fun ty => happ'.out ty _ hg) ?_)
    go_wp2
    go_ret
    exact ⟨rfl, 1, by rw [setBk_setBk]; rfl⟩

theorem eraseIdx_map' {α β : Type} (f : α → β) : ∀ (l : List α) (i : Nat), (l.map f).eraseIdx i = (l.eraseIdx i).map f
  | [], _ => rfl
  | _ :: _, 0 => rfl
  | x :: l, i + 1 => by simp [eraseIdx_map' f l i]

theorem cut_take {cur : Array Value} {xs : List Value} {i n : Nat} (hx : cur.toList.take n = xs) (hn : xs.length = n) (hi : i < n) :
    (cutRow2 (cutRow cur i n) n).toList.take (n - 1) = xs.eraseIdx i := by
  have hs : n ≤ cur.size := by
    have := congrArg List.length hx
    simp at this; omega
  have e1 : (cutRow2 (cutRow cur i n) n).toList.take (n - 1) = (cutRow cur i n).toList.take (n - 1) := by
    simp only [cutRow2, List.append_assoc]
    rw [List.take_append_of_le_length (by simp [cutRow]; omega), List.take_take, Nat.min_self]
  have e2 : (cutRow cur i n).toList.take (n - 1) = cur.toList.take i ++ (cur.toList.drop (i + 1)).take (n - (i + 1)) := by
    simp only [cutRow]
    rw [List.take_left' (by simp; omega)]
  rw [e1, e2, ← hx, List.eraseIdx_eq_take_drop_succ, List.take_take, Nat.min_eq_left (by omega), List.drop_take]

theorem cut_size {cur : Array Value} {i n : Nat} (hn : n ≤ cur.size) (hi : i < n) : (cutRow2 (cutRow cur i n) n).size = cur.size := by
  simp [cutRow2, cutRow]; omega

theorem msgV_one (p : Nat × ByteArray) : (msgV p).oneCell' = true := rfl

set_option maxHeartbeats 400000 in
theorem take_raw (q g n c i : Nat) (cur : Array Value) (w : World) (hq : bk w q = some (.cells #[.slice (some ⟨g, 0, none⟩) n c] 70 (0, 0))) (hg : bk w g = some (.cells cur 38 (0, 0))) (hc : cur.size = c) (hn : n ≤ c) (hm : c ≤ 9223372036854775807) (hi : i < n) (hn1 : n ≤ 9223372036854775807)
    (hone : ∀ k, k < n → ∃ v, cur[k]? = some v ∧ v.oneCell' = true) :
    Calls Try.prog 32 #[.pointer (some ⟨q, 0, none⟩), .int .i64 i] w fun e w' => e = .returned (.tuple #[]) ∧
      ∃ d, w' = ((setBk w g (.cells (cutRow2 (cutRow cur i n) n) 38 (0, 0))).setCell ⟨q, 0, none⟩ (.slice (some ⟨g, 0, none⟩) (n - 1) c)).drewN d := by
  have c0 : w.cell? ⟨q, 0, none⟩ = some (.slice (some ⟨g, 0, none⟩) n c) := by rw [cell?_bk hq]; rfl
  have f0 : w.frozen? ⟨q, 0, none⟩ = false := frozen?_bk hq 0
  have hne : ¬ q = g := by rintro rfl; rw [hq] at hg; injection hg with hg; injection hg with _ h2; cases h2
  have H := Lib.hid (delete_raw g n c i cur w hg hc hn hm hi hone)
  clear hq hc hone hg
  go_enter Try.func32, Try.ntmps32
  go_wp2_with (go_at_call 38; refine H.out.mono ?_; rintro e w' ⟨rfl, d, rfl⟩)
  go_end0
  exact ⟨rfl, d, rfl⟩

theorem take_q2 {w : World} {S : Nat → Prop} {q : Nat} {lv : Value} {L : List (Nat × ByteArray)} (h : QIs w S q lv L) (i : Nat) (hi : i < L.length) :
    Calls Try.prog 32 #[.pointer (some ⟨q, 0, none⟩), .int .i64 i] w fun e w' => e = .returned (.tuple #[]) ∧ Fr S w w' ∧ (∀ p ∈ L, bk w' p.1 = some (.cells (cellsOf p.2) 5 (0, 0))) ∧ ∃ lv', QIs w' S q lv' (L.eraseIdx i) := by
  rcases h.own.2 with ⟨rfl, h0⟩ | ⟨g, cap, cur, rfl, _, hh, hnc, hcm, hcs, htk⟩
  · simp at h0; subst h0; simp at hi
  · rw [Nat.mul_one] at htk
    have hsz : cur.size = cap := by omega
    have hone : ∀ k, k < L.length → ∃ v, cur[k]? = some v ∧ v.oneCell' = true := by
      intro k hk
      have hx : (cur.toList.take L.length)[k]? = (L.map msgV)[k]? := by rw [htk]
      rw [List.getElem?_take, if_pos hk, List.getElem?_map, List.getElem?_eq_getElem hk] at hx
      exact ⟨msgV L[k], by simpa using hx, rfl⟩
    have hne : ¬ q = g := by
      rintro rfl
      have := h.hq.symm.trans hh
      injection this with this; injection this with _ h2; cases h2
    have hSg : S g := h.sr g rfl
    refine (take_raw q g L.length cap i cur w h.hq hh hsz hnc (by simpa [maxLen] using hcm) hi (by simpa [maxLen] using Nat.le_trans hnc hcm) hone).mono ?_
    rintro e w' ⟨rfl, d, rfl⟩
    have hfr : Fr S w (((setBk w g (.cells (cutRow2 (cutRow cur i L.length) L.length) 38 (0, 0))).setCell ⟨q, 0, none⟩ (.slice (some ⟨g, 0, none⟩) (L.length - 1) cap)).drewN d) :=
      (((Fr.refl S w).setBk (fun _ => hSg) _).setCell (p := ⟨q, 0, none⟩) (fun _ => h.sq) _).drewN d
    have hlen : (L.eraseIdx i).length = L.length - 1 := by rw [List.length_eraseIdx]; simp [hi]
    have hkeep : ∀ p ∈ L, bk (((setBk w g (.cells (cutRow2 (cutRow cur i L.length) L.length) 38 (0, 0))).setCell ⟨q, 0, none⟩ (.slice (some ⟨g, 0, none⟩) (L.length - 1) cap)).drewN d) p.1 = some (.cells (cellsOf p.2) 5 (0, 0)) := by
      intro p hp'
      have hb := h.msg p hp'
      rw [bk_drewN, bk_setCell_ne (p := ⟨q, 0, none⟩) ?_, bk_setBk_ne ?_]
      · exact hb
      · rintro e
        rw [e] at hb
        have := hb.symm.trans hh
        injection this with this; injection this with _ h2; cases h2
      · rintro e
        rw [e] at hb
        have := hb.symm.trans h.hq
        injection this with this; injection this with _ h2; cases h2
    refine ⟨rfl, hfr, hkeep, .slice (some ⟨g, 0, none⟩) (L.length - 1) cap, ?_, ?_, ?_, ?_, h.sq, fun k hk => h.sr k (by simpa [Value.ownBlock] using hk), ?_⟩
    · rw [bk_drewN]
      rw [bk_setCell (c := #[.slice (some ⟨g, 0, none⟩) L.length cap]) (t := 70) (fz := (0, 0)) (by rw [bk_setBk_ne hne]; exact h.hq)]
      rfl
    · refine ⟨by simp, .inr ⟨g, cap, cutRow2 (cutRow cur i L.length) L.length, by rw [hlen], Nat.zero_le _, ?_, by omega, hcm, ?_, ?_⟩⟩
      · show bk _ g = _
        rw [bk_drewN, bk_setCell_ne (p := ⟨q, 0, none⟩) (fun e => hne e.symm), bk_setBk (bk_lt hh)]
      · rw [cut_size (by omega) hi]; omega
      · rw [Nat.mul_one, hlen, cut_take htk (by simp) hi, eraseIdx_map']
    · exact fun p hp => hkeep p (List.mem_of_mem_eraseIdx hp)
    · exact h.nd.sublist ((List.eraseIdx_sublist L i).map _)
    · exact fun p hp => h.sm p (List.mem_of_mem_eraseIdx hp)
theorem take_q {w : World} {S : Nat → Prop} {q : Nat} {lv : Value} {L : List (Nat × ByteArray)} (h : QIs w S q lv L) (i : Nat) (hi : i < L.length) :
    Calls Try.prog 32 #[.pointer (some ⟨q, 0, none⟩), .int .i64 i] w fun e w' => e = .returned (.tuple #[]) ∧ Fr S w w' ∧ ∃ lv', QIs w' S q lv' (L.eraseIdx i) :=
  (take_q2 h i hi).mono fun _ _ ⟨h1, h2, _, h3⟩ => ⟨h1, h2, h3⟩
end Go.Proofs.Ytamjclpopkfhmaa
