/-
What RowSMatches leans on, part 8: the texts of this seat, merged.
-/
import Derived.Test.YteleheamnighkaaDoorMSMatchesg
import Derived.Test.YteleheamnighkaaDoorRows
import Derived.Test.YteleheamnighkaaDoorTie
import Derived.Test.YteleheamnighkaaDoorCards
import Derived.WalkKit
import Derived.ProofKit
import Derived.OpenShut
import Derived.ShutString
import Derived.ChangeOld
import Derived.Below
import Derived.SizedLaws
import Derived.Lay
import Derived.LaidMore
import Derived.Lib.LaidTab
import Derived.Lib.LaidU8
import Derived.Lib.SmallJoins
import Derived.SliceStrings
import Derived.SevenTiedAt
section
set_option linter.unusedVariables false
set_option linter.unusedSimpArgs false
namespace Go.Proofs.YteleheamnighkaaDoor
open Go.RowKit Go.DoorKit Go.Proofs.YteleheamnighkaaDoorW.PrintWords
namespace Pure
theorem signR_len (s : Dig.Txt) (a1 a2 : Int) (m : Dig.Txt) : (signR s a1 a2 m).2.1.length ≤ 1000 ∧ (signR s a1 a2 m).2.2.1.length ≤ 1000 := by
  unfold signR
  by_cases h : signBad a1 a2
  · rw [if_pos h]; exact ⟨Nat.zero_le _, Nat.zero_le _⟩
  · rw [if_neg h]
    unfold signBad at h
    refine ⟨by rw [sigL_len]; decide, ?_⟩
    rw [pathL_len]; omega
theorem seal_matches_pure (a0 : ByteArray) (h0 : a0.size ≤ 140737488351232) (a1 : Int) (w1 : (Lit.int .i64 a1).wf = true) (a2 : Int) (w2 : (Lit.int .i64 a2).wf = true) (a3 : ByteArray) (h3 : a3.size ≤ 140737488351232) (a4 : ByteArray) (h4 : a4.size ≤ 140737488351232)
    (i : Int) (wi : (Lit.int .i64 i).wf = true) (l1 : List ByteArray) (hl1 : l1.length ≤ 9223372036854775807) (l2 : List ByteArray) (hl2 : l2.length ≤ 9223372036854775807) :
    ∃ k, PSMatchesReference.planispherelaw02_SealMatchesReference.f k a0 a1 a2 a3 a4 i l1 l2 = some true := by
  refine ⟨2, ?_⟩
  unfold PSMatchesReference.planispherelaw02_SealMatchesReference.f planispherelaw02_head.f
  rw [Option.bind_some, short3, Option.bind_some]
  have j0t : ∀ k, PSMatchesReference.planispherelaw02_SealMatchesReference.j0 (k + 1) a0 a1 a2 a3 a4 true true i l1 l2 = some true := fun k => by
    rw [PSMatchesReference.planispherelaw02_SealMatchesReference.j0, if_pos rfl]
  by_cases hsh : BaseFacts.shortT [a0, a3, a4] = true
  · rw [if_pos hsh]
    have hs0 := shortT_out hsh a0 (by simp)
    have hs3 := shortT_out hsh a3 (by simp)
    have hs4 := shortT_out hsh a4 (by simp)
    unfold planisphereref02_Few.f
    rw [Option.bind_some]
    by_cases hf : fewS l1 l2
    · rw [decide_eq_true hf, if_pos rfl]
      obtain ⟨f1, f2, f3, f4⟩ := hf
      have hvi : verIn a3 l1 l2 := verIn_small hs3 (fun x hx => Nat.le_trans (f3 x hx) (by decide)) (fun x hx => Nat.le_trans (f4 x hx) (by decide)) (by omega) (by omega)
      have j0f : PSMatchesReference.planispherelaw02_SealMatchesReference.j0 2 a0 a1 a2 a3 a4 true false i l1 l2 = some true := by
        have p1 : seal_Public.f a0 a1 = some (publicR (tx a0) a1) := if_pos (Nat.le_trans hs0 (by decide))
        have p2 : planisphereref02_Public.f a0 a1 = some (publicR (tx a0) a1) := if_pos (Nat.le_trans hs0 (by decide))
        have s1 := sign_f a0 a3 a1 a2 hs0 hs3
        have s2 : planisphereref02_Sign.f a0 a1 a2 a3 = some (signR (tx a0) a1 a2 (tx a3)) := if_pos ⟨Nat.le_trans hs0 (by decide), Nat.le_trans hs3 (by decide)⟩
        have v1 : ∀ r, seal_Verify.f r a3 i l1 l2 = some (verR r a3 i l1 l2) := fun r => if_pos hvi
        have v2 : ∀ r, planisphereref02_Verify.f r a3 i l1 l2 = some (verR r a3 i l1 l2) := fun r => if_pos hvi
        have hln := signR_len (tx a0) a1 a2 (tx a3)
        have hself : ∀ x : Bool, (x == x) = true := fun x => by cases x <;> rfl
        rw [PSMatchesReference.planispherelaw02_SealMatchesReference.j0, if_neg (by decide), p1, Option.bind_some, p2, Option.bind_some, s1, Option.bind_some, s2, Option.bind_some, if_pos rfl, if_pos rfl, if_pos rfl,
          same_f _ _ _ _ _ _ hln.1 hln.2, Option.bind_some, PSMatchesReference.planispherelaw02_SealMatchesReference.j1, if_pos rfl]
        have hsame : sameS (signR (tx a0) a1 a2 (tx a3)).1 (signR (tx a0) a1 a2 (tx a3)).2.1 (signR (tx a0) a1 a2 (tx a3)).2.2.1 (signR (tx a0) a1 a2 (tx a3)).1 (signR (tx a0) a1 a2 (tx a3)).2.1 (signR (tx a0) a1 a2 (tx a3)).2.2.1 = true := decide_eq_true ⟨rfl, rfl, rfl⟩
        rw [hsame, if_pos rfl, v1, Option.bind_some, v2, Option.bind_some, hself, if_pos rfl, v1, Option.bind_some, v2, Option.bind_some, hself]
      by_cases h3' : a1 > 3
      · rw [if_pos h3']
        by_cases h8 : a1 ≤ 8
        · rw [decide_eq_true h8]; exact j0t 1
        · rw [decide_eq_false h8]; exact j0f
      · rw [if_neg h3']; exact j0f
    · rw [decide_eq_false hf, if_neg (by decide)]; exact j0t 1
  · rw [if_neg hsh]; exact j0t 1
end Pure
end Go.Proofs.YteleheamnighkaaDoor
end
section
set_option linter.unusedVariables false
namespace Go.Proofs.YteleheamnighkaaDoor
open Go.ChangeShapes Go.WideShapes Go.ChangeAt Go.RowKit Go.Proofs.YteleheamnighkaaDoorW.PrintWords
open Go.ChangeMaps (open_string shut_string)
namespace RK
def laidL : List (String × DataW Unit) := [("math/bits.deBruijn32tab", Rows.laid_math_bits_deBruijn32tab), ("math/bits.deBruijn64tab", Rows.laid_math_bits_deBruijn64tab), ("internal/strconv.uint64pow10", Rows.laid_internal_strconv_uint64pow10), ("unicode/utf8.acceptRanges", Rows.laid_unicode_utf8_acceptRanges), ("unicode/utf8.first", Rows.laid_unicode_utf8_first)]
theorem pow_data : Rows.laid_internal_strconv_uint64pow10 (H := Unit) = Lib.tabData .u64 Lib.pow10Tab := by kernel_rfl
theorem tabIs_of_reads {P : Program} {W : World} {name : String} {k : IntKind} {zs : List Int} {g : Nat} {t e : TypeId} {n : Nat}
    (hg : P.globalNamed name = some g) (hty : (P.globals[g]?).map (·.type) = some t) (ht : P.underlying t = some (.array n e)) (he : P.underlying e = some (.int k)) (hce : P.cellsOf e = 1) (hct : P.cellsOf t = n)
    (h : Lib.VarReads P W name (Lib.tabData k zs)) : Lib.TabIs P W name k zs := by
  obtain ⟨g', t', cs, fuel, p, hg', ht', hvar, hd⟩ := h
  obtain rfl := Option.some.inj (hg.symm.trans hg')
  obtain rfl := Option.some.inj (hty.symm.trans ht')
  unfold Lib.TabIs
  rw [hvar, ← Lib.cells_of_tab ht he hce hct hd]
theorem glob {W : World} (h : laidMetH Tryd.prog laidL W) : Glob W := by
  rw [MakeChecks.laidMetH_plain _ _ _ (by kernel_rfl)] at h
  have hr := Lib.laidMet.reads h (n := "internal/strconv.uint64pow10") (d := Rows.laid_internal_strconv_uint64pow10) (by simp [laidL])
  rw [pow_data] at hr
  exact tabIs_of_reads (g := 0) (t := 118) (e := 54) (n := 20) (by kernel_rfl) (by kernel_rfl) Tryd.underlying118 Tryd.underlying54 (by kernel_rfl) (by kernel_rfl) hr
theorem own : ownKnob Tryd.prog.godebug = none := by kernel_rfl
theorem laidOut : laidOutB Tryd.prog = true := by kernel_rfl
theorem sized {H : Type} {ts : List TypeId} {ds : List (DataW H)} {s : ByteArray} (h : (DataW.weightsEach Tryd.prog ts ds).all (· ≤ reachBytes) = true) (j t : Nat) (ht : ts[j]? = some t) (hd : ds[j]? = some (.lit (.string s.data.toList))) : s.size ≤ 140737488351232 := by
  have z := sized_string h ht hd
  rw [Array.length_toList] at z
  exact z
variable {H : Type} {enc : TypeId × Value → H} {W : World} {base : Nat} {sp : Nat → Bool} {held : Bool}
theorem kd_of_cells {A : Addr} {len : Nat} {ss : List ByteArray} (hl : len ≤ ss.length) (hm : len ≤ maxLen) (hc : ∀ i, i < ss.length → W.cell? (A.add i) = some (.string (ss.getD i ByteArray.empty))) :
    Kd.C Kd.string W (some A) (ss.take len).length (ss.take len) := by
  have hle : (ss.take len).length = len := by simp; omega
  refine Kd.C_of_reads (d := ByteArray.empty) (h1 := fun _ => rfl) ?_
  refine ⟨rfl, by rw [hle]; exact hm, fun hn => ⟨A, rfl, fun j hj => ?_⟩⟩
  rw [hle] at hj
  rw [hc j (by omega)]
  simp [List.getD, hj]
end RK
end Go.Proofs.YteleheamnighkaaDoor
end
section
set_option linter.unusedVariables false
namespace Go.Proofs.YteleheamnighkaaDoor
open Go.ChangeShapes Go.WideShapes Go.ChangeAt Go.RowKit Go.Proofs.YteleheamnighkaaDoorW.PrintWords
namespace RK
variable {H : Type} {enc : TypeId × Value → H} {W : World} {base : Nat} {sp : Nat → Bool} {held : Bool}
theorem list_of {fuel : Nat} {v : Value} {y : DataW H × List MemPlace} (hf : DataW.trod enc Tryd.prog W 0 sp held fuel 22 [v] = some y) :
    ∃ (A : Option Addr) (c : Nat) (l : List ByteArray), v = .slice A l.length c ∧ Kd.C Kd.string W A l.length l ∧ l.length ≤ c ∧ c ≤ maxLen := by
  rcases open_strings Tryd.underlying22 Tryd.underlying9 (by kernel_rfl) hf with ⟨hcs, _⟩ | ⟨x, len', cap', ss, hcs, _, hl, hm, hlen, _, hcell, hsz⟩
  · obtain rfl : v = .slice none 0 0 := by injection hcs
    exact ⟨none, 0, [], rfl, Kd.C_of_reads (d := ByteArray.empty) (h1 := fun _ => rfl) ⟨rfl, Nat.zero_le _, fun hn => absurd hn (by simp)⟩, Nat.le_refl _, Nat.zero_le _⟩
  · obtain rfl : v = .slice (some x) len' cap' := by injection hcs
    have hss : len' ≤ ss.length := by rw [hlen]; split <;> omega
    have hle : (ss.take len').length = len' := by simp; omega
    exact ⟨some x, cap', ss.take len', by rw [hle], kd_of_cells hss (Nat.le_trans hl hm) hcell, by rw [hle]; exact hl, hm⟩
set_option maxRecDepth 100000 in
theorem open_seal {v : Value} {d : DataW H} {p : List MemPlace} (hv : Value.okWide Tryd.prog W .any base 35 v) (h : DataW.Trod enc Tryd.prog W 0 sp held 35 v d p) :
    ∃ (n : Int) (A : Option Addr) (c : Nat) (l : List ByteArray) (B : Option Addr) (e : Nat) (m : List ByteArray), v = .agg #[.int .i64 n, .slice A l.length c, .slice B m.length e] ∧ (Lit.int .i64 n).wf = true ∧
      Kd.C Kd.string W A l.length l ∧ l.length ≤ c ∧ c ≤ maxLen ∧ Kd.C Kd.string W B m.length m ∧ m.length ≤ e ∧ e ≤ maxLen := by
  obtain ⟨v0, v1, v2, y0, y1, y2, n, rfl, _, _, h0, h1, h2⟩ := Joins.open_agg3 Tryd.underlying35 (by kernel_rfl) (by kernel_rfl) hv h
  obtain ⟨z, hz, _, hw⟩ := DataW.trod_int Tryd.underlying3 h0
  obtain rfl : v0 = .int .i64 z := by injection hz
  obtain ⟨A, c, l, rfl, a1, a2, a3⟩ := list_of h1
  obtain ⟨B, e, m, rfl, b1, b2, b3⟩ := list_of h2
  exact ⟨z, A, c, l, B, e, m, rfl, hw, a1, a2, a3, b1, b2, b3⟩
end RK
end Go.Proofs.YteleheamnighkaaDoor
end
