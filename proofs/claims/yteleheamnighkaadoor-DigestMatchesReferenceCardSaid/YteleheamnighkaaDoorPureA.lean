/-
DigestMatchesReference, DigestForm and DigestShort over texts and lists.
-/
import Derived.Test.YteleheamnighkaaDoorPDMatchesReferencex1
import Derived.Test.YteleheamnighkaaDoorPDFormx1
import Derived.Test.YteleheamnighkaaDoorPDShortx1
import Derived.Test.YteleheamnighkaaDoorGiven3
set_option linter.unusedVariables false
set_option linter.unusedSimpArgs false
namespace Go.Proofs.YteleheamnighkaaDoor
open Go.RowKit Go.Proofs.YteleheamnighkaaDoorW.PrintWords
namespace Pure
theorem few_yes {l : List ByteArray} {m : Int} (h : BaseFacts.few l m = true) : (∀ s ∈ l, (s.size : Int) ≤ m) ∧ l.length ≤ 30 := by
  unfold BaseFacts.few at h
  simp only [Bool.and_eq_true, List.all_eq_true, decide_eq_true_eq] at h
  exact h
theorem need_of : ∀ {l : List ByteArray} {m : Nat}, (∀ s ∈ l, s.size ≤ m) → need l ≤ l.length * (m + 21)
  | [], m, _ => by simp [need]
  | s :: l, m, h => by
    have ih := need_of (l := l) (m := m) (fun x hx => h x (by simp [hx]))
    have e : need (s :: l) = s.size + 21 + need l := rfl
    have := h s (by simp)
    rw [e, List.length_cons, Nat.add_mul]; omega
theorem need_few {l : List ByteArray} (h : BaseFacts.few l 200 = true) : need l ≤ 140737488355328 := by
  obtain ⟨h1, h2⟩ := few_yes h
  have := need_of (l := l) (m := 200) (fun s hs => by have := h1 s hs; omega)
  have : l.length * (200 + 21) ≤ 30 * 221 := Nat.mul_le_mul h2 (Nat.le_refl _)
  omega
theorem matches_pure (a0 : ByteArray) (h0 : a0.size ≤ 140737488351232) (l1 : List ByteArray) (h1 : l1.length ≤ 9223372036854775807) :
    ∃ k, PDMatchesReference.planispherelaw01_DigestMatchesReference.f k a0 l1 = some true := by
  refine ⟨1, ?_⟩
  unfold PDMatchesReference.planispherelaw01_DigestMatchesReference.f planispherelaw01_head.f
  simp only [Option.bind_some]
  by_cases hs : (a0.size : Int) > 2000
  · rw [if_pos hs]; simp only [PDMatchesReference.planispherelaw01_DigestMatchesReference.j0, if_true]
  · rw [if_neg hs, rFew l1 200 h1]
    simp only [Option.bind_some]
    cases hf : BaseFacts.few l1 200 with
    | false => simp only [PDMatchesReference.planispherelaw01_DigestMatchesReference.j0, Bool.not_false, if_true]
    | true =>
      have hn := need_few hf
      have hj := joined_need l1 (big_of hn)
      simp only [PDMatchesReference.planispherelaw01_DigestMatchesReference.j0, Bool.not_true, Bool.false_eq_true, if_false, if_true]
      rw [dSum a0 (by omega), rSum a0 (by omega)]
      simp only [Option.bind_some, if_true]
      unfold PDMatchesReference.planisphereref01_List.f
      rw [dList l1 hn, rJoined l1 hn]
      simp only [Option.bind_some]
      rw [rSum _ (by rw [size_ofT]; omega)]
      simp only [Option.bind_some]
      rw [tx_ofT, if_pos rfl, dIs a0 (by omega), rIs a0 (by omega)]
      simp
theorem sum_hex (l : List UInt8) : ∀ c ∈ Dig.sum l, Dig.isHex c = true := by
  intro c hc
  unfold Dig.sum Dig.hex at hc
  simp only [List.mem_map] at hc
  obtain ⟨i, _, rfl⟩ := hc
  have : ∀ t : Fin 16, Dig.isHex (Dig.hexd t.val) = true := by decide +kernel
  exact this ⟨_, Nat.mod_lt _ (by decide)⟩
theorem sum_isD (l : List UInt8) : Dig.isD (Dig.sum l) = true := by
  unfold Dig.isD
  rw [Dig.sum_len, Bool.and_eq_true]
  exact ⟨rfl, List.all_eq_true.2 (sum_hex l)⟩
theorem isD_len {l : List UInt8} (h : l.length ≠ 16) : Dig.isD l = false := by
  unfold Dig.isD; rw [show (l.length == 16) = false by simpa using h, Bool.false_and]
theorem size_1 (b : UInt8) : (⟨#[b]⟩ : ByteArray).size = 1 := rfl
theorem t_app (x y : ByteArray) : tx (x ++ y) = tx x ++ tx y := by show (x ++ y).data.toList = _; rw [ByteArray.data_append, Array.toList_append]
theorem t_ext (x : ByteArray) (i j : Nat) : tx (x.extract i j) = ((tx x).drop i).take (j - i) := by
  show (x.extract i j).data.toList = _
  rw [ByteArray.data_extract, Array.toList_extract]
theorem size_app (x y : ByteArray) : (x ++ y).size = x.size + y.size := by rw [← tx_len, t_app, List.length_append, tx_len, tx_len]
theorem size_ext (x : ByteArray) (i j : Nat) : (x.extract i j).size = min (j - i) (x.size - i) := by rw [← tx_len, t_ext, List.length_take, List.length_drop, tx_len]
theorem c1 (t : ByteArray) (hsz : t.size = 16) (i : Nat) (hm : i < 16) : (t.extract 0 i).size = i := by rw [size_ext, hsz]; omega
theorem c2 (t : ByteArray) (hsz : t.size = 16) (i : Nat) (hm : i < 16) : (t.extract (i + 1) 16).size = 15 - i := by rw [size_ext, hsz]; omega
theorem c3 (t : ByteArray) (hsz : t.size = 16) (i : Nat) (hm : i < 16) : ((t.extract 0 i) ++ (⟨#[65]⟩ : ByteArray)).size = i + 1 := by rw [size_app, c1 t hsz i hm]; rfl
theorem c4 (t : ByteArray) (hsz : t.size = 16) (i : Nat) (hm : i < 16) : (((t.extract 0 i) ++ (⟨#[65]⟩ : ByteArray)) ++ (t.extract (i + 1) 16)).size ≤ 140737488355328 := by rw [size_app, c2 t hsz i hm, c3 t hsz i hm]; omega
theorem hA (t : ByteArray) (hsz : t.size = 16) (i : Nat) (hm : i < 16) : Dig.isD (tx (((t.extract 0 i) ++ (⟨#[65]⟩ : ByteArray)) ++ (t.extract (i + 1) 16))) = false := by
    unfold Dig.isD
    have : (tx (((t.extract 0 i) ++ (⟨#[65]⟩ : ByteArray)) ++ (t.extract (i + 1) 16))).all Dig.isHex = false := by
      rw [List.all_eq_false]
      exact ⟨65, by rw [t_app, t_app]; exact List.mem_append_left _ (List.mem_append_right _ (List.mem_singleton.2 rfl)), by decide⟩
    rw [this, Bool.and_false]
theorem h3 (t : ByteArray) (hsz : t.size = 16) (i : Nat) (hm : i < 16) : (t.extract 0 i).size + 1 ≤ 9223372036854775807 := by rw [c1 t hsz i hm]; omega
theorem h6 (t : ByteArray) (hsz : t.size = 16) (i : Nat) (hm : i < 16) : ((t.extract 0 i) ++ (⟨#[65]⟩ : ByteArray)).size + (t.extract (i + 1) 16).size ≤ 9223372036854775807 := by rw [c2 t hsz i hm, c3 t hsz i hm]; omega
theorem form_last (t : ByteArray) (hsz : t.size = 16) (i : Nat) (hm : i < 16) :
    (if 0 ≤ (i : Int) then (if (i : Int) ≤ ((16 : Nat) : Int) then (if (t.extract 0 i).size + 1 ≤ 9223372036854775807 then (if 0 ≤ ((i + 1 : Nat) : Int) then (if ((i + 1 : Nat) : Int) ≤ ((16 : Nat) : Int) then
      (if ((t.extract 0 i) ++ (⟨#[65]⟩ : ByteArray)).size + (t.extract (i + 1) 16).size ≤ 9223372036854775807 then ((digest_Is.f (((t.extract 0 i) ++ (⟨#[65]⟩ : ByteArray)) ++ (t.extract (i + 1) 16))).bind fun t109 => (some (!t109))) else (none)) else (none)) else (none)) else (none)) else (none)) else (none)) = some true := by
  have h1 : 0 ≤ (i : Int) := by omega
  have h2 : (i : Int) ≤ ((16 : Nat) : Int) := by omega
  have h4 : 0 ≤ ((i + 1 : Nat) : Int) := by omega
  have h5 : ((i + 1 : Nat) : Int) ≤ ((16 : Nat) : Int) := by omega
  rw [if_pos h1, if_pos h2, if_pos (h3 t hsz i hm), if_pos h4, if_pos h5, if_pos (h6 t hsz i hm), dIs _ (c4 t hsz i hm), hA t hsz i hm]; rfl
theorem q1 : ((16 : Nat) : Int) = 16 := rfl
theorem q2 : 16 + 1 ≤ 9223372036854775807 := by decide
theorem q3 : 1 ≤ ((16 : Nat) : Int) := by decide
theorem q4 (t : ByteArray) (hsz : t.size = 16) : t.size ≤ 140737488355328 := by rw [hsz]; decide
theorem q5 (t : ByteArray) (hsz : t.size = 16) : (t ++ (⟨#[48]⟩ : ByteArray)).size = 17 := by rw [size_app, hsz]; rfl
theorem q6 (t : ByteArray) (hsz : t.size = 16) : (t ++ (⟨#[48]⟩ : ByteArray)).size ≤ 140737488355328 := by rw [q5 t hsz]; decide
theorem q7 (t : ByteArray) (hsz : t.size = 16) : (tx (t ++ (⟨#[48]⟩ : ByteArray))).length ≠ 16 := by rw [tx_len, q5 t hsz]; decide
theorem q8 (t : ByteArray) (hsz : t.size = 16) : (t.extract 1 16).size = 15 := by rw [size_ext, hsz]; rfl
theorem q9 (t : ByteArray) (hsz : t.size = 16) : (t.extract 1 16).size ≤ 140737488355328 := by rw [q8 t hsz]; decide
theorem q10 (t : ByteArray) (hsz : t.size = 16) : (tx (t.extract 1 16)).length ≠ 16 := by rw [tx_len, q8 t hsz]; decide
theorem q11 (n : Nat) (h : n ≤ 255) : wrap64 (n : Int) = n := by unfold wrap64; omega
theorem q12 (n : Nat) : Int.tmod (n : Int) 16 = ((n % 16 : Nat) : Int) := by rw [show (16 : Int) = ((16 : Nat) : Int) from rfl, BaseFacts.tmod_nat]
theorem q13 (i : Nat) (h : i < 16) : wrap64 ((i : Int) + 1) = ((i + 1 : Nat) : Int) := by unfold wrap64; omega
theorem q14 (a : ByteArray) (h : a.size ≤ 140737488351232) : a.size ≤ 140737488355328 := Nat.le_trans h (by decide)
theorem form_pure (a0 : ByteArray) (h0 : a0.size ≤ 140737488351232) (l1 : List ByteArray) (h1 : l1.length ≤ 9223372036854775807) (a2 : Int) (w2 : (Lit.int .u8 a2).wf = true) :
    ∃ k, PDForm.planispherelaw01_DigestForm.f k a0 l1 a2 = some true := by
  have hw : 0 ≤ a2 ∧ a2 ≤ 255 := by simpa [Lit.wf, IntKind.min, IntKind.max, IntKind.signed, IntKind.bits] using w2
  obtain ⟨n, rfl⟩ := Int.eq_ofNat_of_zero_le hw.1
  refine ⟨1, ?_⟩
  unfold PDForm.planispherelaw01_DigestForm.f planispherelaw01_head.f
  simp only [Option.bind_some]
  by_cases hs : (a0.size : Int) > 2000
  · rw [if_pos hs]; simp only [PDForm.planispherelaw01_DigestForm.j0, if_true]
  · rw [if_neg hs, rFew l1 200 h1]
    simp only [Option.bind_some]
    cases hf : BaseFacts.few l1 200 with
    | false => simp only [PDForm.planispherelaw01_DigestForm.j0, Bool.not_false, if_true]
    | true =>
      have hn := need_few hf
      have hsz : (ofT (Dig.sum (tx a0))).size = 16 := by rw [size_ofT, Dig.sum_len]
      simp only [PDForm.planispherelaw01_DigestForm.j0, Bool.not_true, Bool.false_eq_true, if_false, if_true]
      obtain ⟨t, ht⟩ : ∃ t, t = ofT (Dig.sum (tx a0)) := ⟨_, rfl⟩
      have htd : Dig.isD (tx t) = true := by rw [ht, tx_ofT]; exact sum_isD _
      rw [← ht] at hsz
      obtain ⟨u, hu⟩ : ∃ u, u = ofT (Dig.sum (Dig.joined (l1.map tx))) := ⟨_, rfl⟩
      have hud : Dig.isD (tx u) = true := by rw [hu, tx_ofT]; exact sum_isD _
      have husz : u.size = 16 := by rw [hu, size_ofT, Dig.sum_len]
      have e1 : digest_Sum.f a0 = some t := by rw [ht]; exact dSum a0 (q14 a0 h0)
      have e2 : digest_List.f l1 = some u := by rw [hu]; exact dList l1 hn
      clear ht hu hn hf h1 h0 hs w2
      rw [e1]
      simp only [Option.bind_some]
      rw [hsz, if_pos q1, dIs _ (q4 t hsz), htd]
      simp only [Option.bind_some, if_true]
      rw [e2]
      simp only [Option.bind_some]
      rw [dIs _ (q4 u husz), hud]
      simp only [Option.bind_some, if_true]
      rw [if_pos q2, dIs _ (q6 t hsz), isD_len (q7 t hsz), Option.bind_some, if_neg Bool.false_ne_true,
        if_pos q3, dIs _ (q9 t hsz), isD_len (q10 t hsz), Option.bind_some, if_neg Bool.false_ne_true]
      clear e1 e2
      rw [q11 n (by have := hw.2; omega), q12]
      have hm : n % 16 < 16 := Nat.mod_lt _ (by decide)
      generalize n % 16 = i at *
      rw [q13 i hm]
      rw [Int.toNat_natCast, Int.toNat_natCast]
      exact form_last t hsz i hm
theorem min7 (n : Nat) : mn (n : Int) 7 = ((min n 7 : Nat) : Int) := by unfold mn; omega
theorem short_pure (a0 : ByteArray) (h0 : a0.size ≤ 140737488351232) (a1 : ByteArray) (h1 : a1.size ≤ 140737488351232) :
    PDShort.planispherelaw01_DigestShort.f a0 a1 = some true := by
  unfold PDShort.planispherelaw01_DigestShort.f planispherelaw01_head.f
  simp only [Option.bind_some]
  rw [min7, min7, if_pos (by omega), if_pos (by omega), if_pos (by omega), if_pos (by omega), if_pos trivial]
  simp only [Int.toNat_natCast]
  have t2 : ∀ (x : ByteArray), (tx (x.extract 0 (min x.size 7))).length ≤ 7 := fun x => by
    show (x.extract 0 (min x.size 7)).data.toList.length ≤ 7
    rw [ByteArray.data_extract, Array.toList_extract]; simp; omega
  have u0 := t2 a0
  have u1 := t2 a1
  generalize a0.extract 0 (min a0.size 7) = x at *
  generalize a1.extract 0 (min a1.size 7) = y at *
  rw [dSum x (by rw [← tx_len]; omega), dSum y (by rw [← tx_len]; omega)]
  simp only [Option.bind_some]
  congr 1
  rw [beq_iff_eq, Bool.eq_iff_iff, beq_iff_eq, beq_iff_eq, ofT_eq, toList_tx, toList_tx]
  exact ⟨fun h => Dig.sum_short u0 u1 h, fun h => by rw [h]⟩
end Pure
end Go.Proofs.YteleheamnighkaaDoor
