/-
The walk of the closure that takes a block.
-/
import Derived.Test.YteleheamnighkaaDoorDig1
import Derived.Outline
set_option linter.unusedVariables false
set_option linter.unusedSimpArgs false
namespace Go.Proofs.YteleheamnighkaaDoor
open Go.RowKit Go.DoorKit
theorem Tryd.info5 : (Tryd.prog.info? 5).isSome = true := by kernel_rfl
def blkL (l : List UInt8) : List Value := (List.range 8).map fun i => .int .u8 (l.getD i 0).toNat
theorem blk_copy (s : ByteArray) (hs : s.size ≤ 8) : (s.data.toList.map fun b => Value.int .u8 b.toNat) ++ (#[Value.int .u8 0, .int .u8 0, .int .u8 0, .int .u8 0, .int .u8 0, .int .u8 0, .int .u8 0, .int .u8 0] : Array Value).toList.drop s.size = blkL s.data.toList := by
  have hl : s.data.toList.length = s.size := by simp
  have hz : (#[Value.int .u8 0, .int .u8 0, .int .u8 0, .int .u8 0, .int .u8 0, .int .u8 0, .int .u8 0, .int .u8 0] : Array Value).toList = List.replicate 8 (.int .u8 0) := rfl
  rw [hz, List.drop_replicate]
  apply List.ext_getElem
  · simp [blkL]; omega
  · intro i h1 h2
    simp only [blkL, List.length_map, List.length_range] at h2
    rw [List.getElem_append]
    simp only [blkL, List.getElem_map, List.getElem_range, List.length_map, hl]
    split
    · rename_i h
      simp [List.getD, List.getElem?_eq_getElem (show i < s.data.toList.length by omega)]
    · rename_i h
      simp [List.getD, List.getElem?_eq_none (show s.data.toList.length ≤ i by omega)]

theorem blkL_at (l : List UInt8) (i : Nat) (hi : i < 8) : (blkL l).toArray[i]? = some (.int .u8 ((l.getD i 0).toNat : Int)) := by
  simp only [blkL, List.getElem?_toArray, List.getElem?_map]
  rw [List.getElem?_range hi]; rfl
theorem wrap_u64 (z : Int) : IntKind.u64.wrap z = z % 18446744073709551616 := by simp [IntKind.wrap, IntKind.bits, IntKind.signed]
theorem or_u64 (n c : Nat) (hn : n < 72057594037927936) (hc : c < 256) : bits .or .u64 (IntKind.u64.wrap ((n : Int) * 256)) (IntKind.u64.wrap (c : Int)) = ((n * 256 + c : Nat) : Int) := by
  have h1 : IntKind.u64.wrap ((n : Int) * 256) = ((n * 256 : Nat) : Int) := by rw [wrap_u64]; omega
  have h2 : IntKind.u64.wrap (c : Int) = (c : Int) := by rw [wrap_u64]; omega
  have e1 : (BitVec.ofInt 64 ((n * 256 : Nat) : Int)).toNat = n * 256 := by rw [BitVec.ofInt_natCast, BitVec.toNat_ofNat, Nat.mod_eq_of_lt (by omega)]
  have e2 : (BitVec.ofInt 64 (c : Int)).toNat = c := by rw [BitVec.ofInt_natCast, BitVec.toNat_ofNat, Nat.mod_eq_of_lt (by omega)]
  rw [h1, h2]
  show IntKind.u64.wrap (((BitVec.ofInt 64 ((n * 256 : Nat) : Int)) ||| (BitVec.ofInt 64 (c : Int))).toNat : Int) = _
  rw [BitVec.toNat_or, e1, e2, Nat.mul_comm n 256, show 256 = 2 ^ 8 from rfl, ← Nat.two_pow_add_eq_or_of_lt (by omega) n, wrap_u64]
  omega
theorem mix_any (z : Int) (x : UInt64) (hz : z = x.toNat) (w : World) :
    Calls Tryd.prog 39 #[.int .u64 z] w fun e w' => e = .returned (.int .u64 (Dig.mix x).toNat) ∧ w = w' := by
  subst hz
  exact (mix_calls x w).mono fun e w' h => ⟨h.1, h.2.symm⟩

set_option maxRecDepth 100000 in
set_option maxHeartbeats 400000 in
theorem take_calls (b : Nat) (x : UInt64) (s : ByteArray) (hs : s.size ≤ 8) (w : World) (hb : w.cell? ⟨b, 0, none⟩ = some (.int .u64 x.toNat)) (hf : w.frozen? ⟨b, 0, none⟩ = false) (hlt : b < w.heap.size) :
    Calls Tryd.prog 38 #[.string s, .pointer (some ⟨b, 0, none⟩)] w fun e w' => e = .returned (.tuple #[]) ∧ ∃ o, w' = (w.setCell ⟨b, 0, none⟩ (.int .u64 (Dig.mix (x ^^^ Dig.block s.data.toList)).toNat)).alloc o := by
  obtain ⟨inf, hi⟩ := Option.isSome_iff_exists.1 Tryd.info5
  have HR := Lib.hid (fun ty => run_copy_part (P := Tryd.prog) (w.alloc (.cells #[.int .u8 0, .int .u8 0, .int .u8 0, .int .u8 0, .int .u8 0, .int .u8 0, .int .u8 0, .int .u8 0] 55)) (t := 56) (t2 := 9) (ty := ty) Tryd.underlying56 hi w.heap.size 8 8 _ s bk_alloc_new rfl hs)
  rw [blk_copy s hs, setBk_alloc_new] at HR
  obtain ⟨arr, harr⟩ : ∃ arr, arr = (blkL s.data.toList).toArray := ⟨_, rfl⟩
  rw [← harr] at HR
  have HA := Lib.hid harr
  clear harr hi
  have hcp := HR.out
  clear HR
  go_enter Tryd.func38, Tryd.ntmps38
  go_wp2
  clear hcp
  go_loop [4, 5, 9] (fun v4 v5 v9 => ∃ i : Nat, i ≤ 8 ∧ v4 = .int .u64 (Dig.pre s.data.toList i : Nat) ∧ v9 = .int .i64 i) (fun _ _ v9 => 8 - (intOf v9).toNat)
  case atStart => exact ⟨0, by omega, rfl, rfl⟩
  case round =>
    obtain ⟨i, hi8, rfl, rfl⟩ := hrel
    by_cases hlt8 : i < 8
    · have hc : (w.alloc (Obj.cells arr 55)).cell? ⟨w.heap.size, i, none⟩ = some (.int .u8 ((s.data.toList.getD i 0).toNat : Int)) := by
        rw [cell?_bk bk_alloc_new, HA.out]; exact blkL_at _ _ hlt8
      have hp := Dig.pre_lt s.data.toList i
      have hp2 : 256 ^ i ≤ 256 ^ 7 := Nat.pow_le_pow_right (by decide) (by omega)
      have hp3 := Lib.hid (show Dig.pre s.data.toList i < 72057594037927936 by omega)
      have hs1 : Hid (Dig.pre s.data.toList (i + 1) = Dig.pre s.data.toList i * 256 + (s.data.toList.getD i 0).toNat) := Lib.hid rfl
      generalize Dig.pre s.data.toList i = n at *
      have hd := Lib.hid (s.data.toList.getD i 0).toNat_lt
      generalize (s.data.toList.getD i 0).toNat = c at *
      clear hp hp2
      go_wp2
      go_round
      case rel => exact ⟨i + 1, by omega, by rw [hs1.out, or_u64 n c hp3.out hd.out], by go_num⟩
      case measure => simp [intOf]; omega
    · obtain rfl : i = 8 := by omega
      rw [← Dig.block_toNat]
      go_wp2_with (go_at_call 39; refine (mix_any _ (x ^^^ Dig.block s.data.toList) (xor_u _ _) _).mono ?_; rintro e w' ⟨rfl, rfl⟩)
      go_end0
      exact ⟨rfl, _, rfl⟩
end Go.Proofs.YteleheamnighkaaDoor
