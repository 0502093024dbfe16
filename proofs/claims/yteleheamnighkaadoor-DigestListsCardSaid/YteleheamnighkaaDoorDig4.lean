/-
The walk of the digest of a text.
-/
import Derived.Test.YteleheamnighkaaDoorDig3
import Derived.Lib.Strings
set_option linter.unusedVariables false
set_option linter.unusedSimpArgs false
namespace Go.Proofs.YteleheamnighkaaDoor
open Go.RowKit Go.DoorKit
theorem ext_take (s : ByteArray) (h : 8 ≤ s.size) : (s.extract 0 8).data.toList = s.data.toList.take 8 := by
  rw [ByteArray.data_extract]; simp
theorem ext_drop (s : ByteArray) : (s.extract 8 s.size).data.toList = s.data.toList.drop 8 := by
  rw [ByteArray.data_extract]; simp
  exact List.take_of_length_le (by simp)
theorem block_take (l : List UInt8) : Dig.block (l.take 8) = Dig.block l := by
  unfold Dig.block
  rw [Dig.pre_congr]
  intro j hj
  simp [List.getD, List.getElem?_take, hj]
def strLen : Value → Nat
  | .string t => t.size
  | _ => 0
theorem start_bits (s : ByteArray) (hs : s.size ≤ 9223372036854775807) : bits .xor .u64 1181783497276652981 (s.size : Int) = ((Dig.start s.size).toNat : Int) := by
  have h : ((UInt64.ofNat s.data.toList.length).toNat : Int) = (s.size : Int) := by
    rw [UInt64.toNat_ofNat', show s.data.toList.length = s.size by simp, Nat.mod_eq_of_lt (by omega)]
  have := xor_u 1181783497276652981 (UInt64.ofNat s.data.toList.length)
  rw [h, show ((1181783497276652981 : UInt64).toNat : Int) = 1181783497276652981 from rfl] at this
  rw [this, show s.data.toList.length = s.size by simp]; rfl
theorem store_row (W : World) (a b : Array Value) (T : TypeId) (hs : a.size = b.size) (h1 : ∀ v ∈ b.toList, v.oneCell' = true) :
    (storeCells ⟨W.heap.size, 0, none⟩ b.toList).run Tryd.prog (W.alloc (.cells a T)) = .ok () (W.alloc (.cells b T)) := by
  have hst := run_storeCells_at Tryd.prog W.heap.size 0 T b.toList 0 a (W.alloc (.cells a T)) bk_alloc_new (by rw [Array.length_toList]; omega) h1
  simp only [Nat.add_zero, Nat.zero_add, List.take_zero, List.nil_append, Array.length_toList] at hst
  rw [List.drop_eq_nil_of_le (by rw [Array.length_toList]; omega), List.append_nil] at hst
  rw [hst, setRow_eq bk_alloc_new, setBk_alloc_new]
theorem digA_one : ∀ v ∈ (digA 16).toList, v.oneCell' = true := by
  rw [digA_16]; simp [Value.oneCell']
def outA (y : Nat) (i : Nat) : Array Value := ((List.range 16).map fun j => if j < i then Value.int .u8 ((Dig.hexd (y / 2 ^ (60 - 4 * j) % 16)).toNat : Int) else .int .u8 0).toArray
theorem outA_zero (y : Nat) : (#[.int .u8 0, .int .u8 0, .int .u8 0, .int .u8 0, .int .u8 0, .int .u8 0, .int .u8 0, .int .u8 0, .int .u8 0, .int .u8 0, .int .u8 0, .int .u8 0, .int .u8 0, .int .u8 0, .int .u8 0, .int .u8 0] : Array Value) = outA y 0 := rfl
theorem outA_get (y i : Nat) (hi : i < 16) : (outA y i)[i]? = some (.int .u8 0) := by
  simp only [outA, List.getElem?_toArray, List.getElem?_map]
  rw [List.getElem?_range hi]; simp
theorem outA_size (y i : Nat) : (outA y i).size = 16 := by simp [outA]
theorem outA_succ (y i : Nat) : (outA y i).setIfInBounds i (.int .u8 ((Dig.hexd (y / 2 ^ (60 - 4 * i) % 16)).toNat : Int)) = outA y (i + 1) := by
  apply Array.ext
  · simp [outA]
  · intro k h1 h2
    rw [Array.getElem_setIfInBounds (by simpa using h1)]
    simp only [outA, List.getElem_toArray, List.getElem_map, List.getElem_range]
    by_cases h : i = k
    · subst h; rw [if_pos rfl, if_pos (by omega)]
    · rw [if_neg h]
      by_cases h3 : k < i
      · rw [if_pos h3, if_pos (by omega)]
      · rw [if_neg h3, if_neg (by omega)]
theorem digA_at (d : Nat) (hd : d < 16) : (digA 16)[d]? = some (.int .u8 ((Dig.hexd d).toNat : Int)) := by
  simp only [digA, List.getElem?_toArray, List.getElem?_map]
  rw [List.getElem?_range hd]; simp [hd]
theorem and_15 (y : UInt64) (k : Nat) : bits .and .u64 ((y.toNat : Int) / 2 ^ k) 15 = ((y.toNat / 2 ^ k % 16 : Nat) : Int) := by
  have hy := y.toNat_lt
  have h1 : ((y.toNat : Int) / 2 ^ k) = ((y.toNat / 2 ^ k : Nat) : Int) := by simp
  have h2 : y.toNat / 2 ^ k ≤ y.toNat := Nat.div_le_self _ _
  rw [h1]
  generalize y.toNat / 2 ^ k = z at *
  have e1 : (BitVec.ofInt 64 (z : Int)).toNat = z := by rw [BitVec.ofInt_natCast, BitVec.toNat_ofNat, Nat.mod_eq_of_lt (by omega)]
  show IntKind.u64.wrap (((BitVec.ofInt 64 (z : Int)) &&& (BitVec.ofInt 64 15)).toNat : Int) = _
  rw [BitVec.toNat_and, e1, show (BitVec.ofInt 64 15).toNat = 2 ^ 4 - 1 from rfl, Nat.and_two_pow_sub_one_eq_mod, wrap_u64]
  omega
theorem outA_bytes (y : Nat) : outA y 16 = (Dig.hex y).toArray.map fun b => Value.int .u8 (b.toNat : Int) := by
  apply Array.ext
  · simp [outA, Dig.hex]
  · intro k h1 h2
    simp only [outA, Dig.hex, List.getElem_toArray, List.getElem_map, List.getElem_range, Array.getElem_map]
    rw [if_pos (by rw [outA_size] at h1; exact h1)]
theorem strOf_l (l : List UInt8) : strOfNums (l.map fun x => (x.toNat : Int)) = ⟨l.toArray⟩ := by
  unfold strOfNums
  rw [List.map_map, List.map_congr_left (g := id) (fun x _ => by simp), List.map_id]
/-- string(b) of a row that reads as a text. -/
theorem conv_row {W : World} {g T n : Nat} {l : List UInt8} (h : bk W g = some (.cells (l.map fun b => Value.int .u8 (b.toNat : Int)).toArray T (0, 0))) (hn : l.length = n) : (convert 56 9 (.slice (some ⟨g, 0, none⟩) n n)).run Tryd.prog W = .ok (.string ⟨l.toArray⟩) W := by
  subst hn
  have := run_convert_bytes_arg (P := Tryd.prog) W 56 5 Tryd.underlying56 Tryd.underlying5 g 0 l.length l.length (l.map fun x => (x.toNat : Int)) (by simp) (fun i hi => by
    rw [cell?_bk h, Nat.zero_add]
    simp [List.getD_eq_getElem?_getD, hi]) 9 Tryd.underlying9
  rw [strOf_l] at this
  exact this
set_option maxRecDepth 100000 in
set_option maxHeartbeats 400000 in
theorem sum_calls (s : ByteArray) (hs : s.size ≤ 9223372036854775807) (w : World) :
    Calls Tryd.prog 17 #[.string s] w fun e w' => e = .returned (.string ⟨(Dig.sum s.data.toList).toArray⟩) ∧ Below w.heap.size w w' := by
  have HS := Lib.hid (start_bits s hs)
  go_enter Tryd.func17, Tryd.ntmps17
  go_wp2_with fail
  rw [HS.out]
  go_loopw [0, 13, 14, 15, 16, 17, 18, 19, 20, 21] (fun v0 _ _ _ _ _ _ _ _ _ wr => ∃ (t : ByteArray) (x : UInt64), v0 = .string t ∧ t.size ≤ s.size ∧ Hid (Dig.steps x t.data.toList = Dig.steps (Dig.start s.size) s.data.toList) ∧
      wr.cell? ⟨w.heap.size, 0, none⟩ = some (.int .u64 x.toNat) ∧ wr.frozen? ⟨w.heap.size, 0, none⟩ = false ∧ w.heap.size < wr.heap.size ∧ Below w.heap.size w wr) (fun v0 _ _ _ _ _ _ _ _ _ _ => strLen v0)
  case atStart => exact ⟨s, _, rfl, Nat.le_refl _, Lib.hid rfl, by rw [cell?_bk bk_alloc_new]; rfl, frozen?_bk bk_alloc_new 0, by simp, (Below.refl _ _).alloc (Nat.le_refl _) _⟩
  case round =>
    obtain ⟨t, x, rfl, hts, HX, hc, hf, hlt, hB⟩ := hrel
    by_cases h8 : 8 ≤ t.size
    · have hsz : (t.extract 0 8).size ≤ 8 := by simp; omega
      go_wp2_with (go_at_call 38; refine (take_calls w.heap.size x _ hsz _ hc hf hlt).mono ?_; rintro e w2 ⟨rfl, o, rfl⟩)
      go_roundw
      case rel =>
        refine ⟨t.extract 8 t.size, Dig.mix (x ^^^ Dig.block t.data.toList), rfl, by simp; omega, Lib.hid ?_, ?_, ?_, ?_, ?_⟩
        · rw [ext_drop, ← HX.out, Dig.steps_long (l := t.data.toList) (by simpa using h8)]
        · rw [block_take]
          rw [World.cell?_of_block (w := wr.setCell ⟨w.heap.size, 0, none⟩ _) (bk_alloc_lt (by simpa [World.setCell] using hlt))]
          exact World.cell?_setCell_same' _ _ _ (by rw [hc]; rfl)
        · rw [World.frozen?_of_block (w := wr.setCell ⟨w.heap.size, 0, none⟩ _) (bk_alloc_lt (by simpa [World.setCell] using hlt)), World.frozen?_setCell]; exact hf
        · simp [World.setCell]; omega
        · exact (hB.setCell (p := ⟨w.heap.size, 0, none⟩) (Nat.le_refl _) _).alloc (by simp [World.setCell]; omega) _
      case measure => simp [strLen]; omega
    · have hsz : t.size ≤ 8 := by omega
      have h8' : t.size < 8 := by omega
      go_wp2_with (first
       | (go_at_call 38; refine (take_calls w.heap.size x _ hsz _ hc hf hlt).mono ?_; rintro e w2 ⟨rfl, o, rfl⟩))
      have HX2 : Hid (Dig.mix (x ^^^ Dig.block t.data.toList) = Dig.steps (Dig.start s.size) s.data.toList) := Lib.hid (by rw [← HX.out, Dig.steps_short (by simpa using h8')])
      generalize hm : Dig.mix (x ^^^ Dig.block t.data.toList) = y at *
      clear HX hm
      have hc2 : ((wr.setCell ⟨w.heap.size, 0, none⟩ (.int .u64 (y.toNat : Int))).alloc o).cell? ⟨w.heap.size, 0, none⟩ = some (.int .u64 (y.toNat : Int)) := by
        rw [World.cell?_of_block (w := wr.setCell ⟨w.heap.size, 0, none⟩ _) (bk_alloc_lt (by simpa [World.setCell] using hlt))]
        exact World.cell?_setCell_same' _ _ _ (by rw [hc]; rfl)
      have hlt2 : w.heap.size < ((wr.setCell ⟨w.heap.size, 0, none⟩ (.int .u64 (y.toNat : Int))).alloc o).heap.size := by simp [World.setCell]; omega
      have hB2 : Below w.heap.size w ((wr.setCell ⟨w.heap.size, 0, none⟩ (.int .u64 (y.toNat : Int))).alloc o) := (hB.setCell (p := ⟨w.heap.size, 0, none⟩) (Nat.le_refl _) _).alloc (by simp [World.setCell]; omega) _
      generalize (wr.setCell ⟨w.heap.size, 0, none⟩ (.int .u64 (y.toNat : Int))).alloc o = W2 at *
      clear hc hf hlt hB
      refine (digits_calls _).mono ?_
      rintro e W3 ⟨rfl, hB3⟩
      have hc3 : W3.cell? ⟨w.heap.size, 0, none⟩ = some (.int .u64 (y.toNat : Int)) := (hB3.cell (p := ⟨w.heap.size, 0, none⟩) hlt2).trans hc2
      have hlt3 : w.heap.size < W3.heap.size := Nat.lt_of_lt_of_le hlt2 hB3.size
      have hB4 : Below w.heap.size w W3 := hB2.trans (hB3.mono (Nat.le_of_lt hlt2))
      clear hB3 hc2 hlt2 hB2
      have h16 := digA_size 16
      have hst := store_row W3 (digA 0) (digA 16) 60 rfl digA_one
      rw [← digA_zero] at hst
      go_wp2_with fail
      clear hst
      go_loopw [7, 26] (fun v7 v26 wr => ∃ i : Nat, i ≤ 16 ∧ v26 = .int .i64 i ∧ wr = (W3.alloc (.cells (digA 16) 60)).alloc (.cells (outA y.toNat i) 60)) (fun _ v26 _ => 16 - (intOf v26).toNat)
      case atStart => exact ⟨0, by omega, rfl, rfl⟩
      case round =>
        obtain ⟨i, hi, rfl, rfl⟩ := hrel
        by_cases hlt : i < 16
        · have hand := and_15 y (60 - 4 * i)
          have hos := Lib.hid (outA_succ y.toNat i)
          obtain ⟨d, hd⟩ : ∃ d, y.toNat / 2 ^ (60 - 4 * i) % 16 = d := ⟨_, rfl⟩
          have hd16 : d < 16 := by omega
          rw [hd] at hand hos
          have Hd := Lib.hid hd
          clear hd
          have hda : ∀ h, (digA 16)[d]'h = .int .u8 ((Dig.hexd d).toNat : Int) := fun h => Option.some.inj ((Array.getElem?_eq_getElem h).symm.trans (digA_at d hd16))
          have hg := outA_get y.toNat i hlt
          go_wp2
          go_roundw
          case rel => exact ⟨i + 1, by omega, by go_num, by rw [hos.out]⟩
          case measure => simp [intOf]; omega
        · obtain rfl : i = 16 := by omega
          have hl : (Dig.hex y.toNat).length = 16 := Dig.hex_len _
          have hcv := conv_row (W := (W3.alloc (.cells (digA 16) 60)).alloc (.cells ((Dig.hex y.toNat).map fun b => Value.int .u8 (b.toNat : Int)).toArray 60)) bk_alloc_new hl
          rw [World.size_alloc] at hcv
          rw [outA_bytes]
          have HF : Hid (Dig.hex y.toNat = Dig.sum s.data.toList) := Lib.hid (by rw [HX2.out, show s.size = s.data.toList.length by simp]; rfl)
          go_wp2_with fail
          go_ret
          exact ⟨by rw [HF.out]; rfl, (hB4.alloc (Nat.le_of_lt hlt3) _).alloc (by simp; omega) _⟩
end Go.Proofs.YteleheamnighkaaDoor
