/-
What RowSForm leans on, part 2: the texts of this seat, merged.
-/
import Derived.Test.YteleheamnighkaaDoorMSForma
import Derived.RangeFuncNested
import Derived.RangeFuncBound
import Derived.RangeFuncCalls
import Derived.RangeFuncLeaves
import Derived.OrdersIn
import Derived.TacticsIn
import Derived.WalkKit
import Derived.WalkSpells
import Derived.WalkLawsBesides
import Derived.Deep.RegionLaw
import Derived.Maps.AppendAt
import Derived.Deep.OwnRows
import Derived.Lib.Hide
import Derived.Laws.BitsLemmas
import Derived.Test.YteleheamnighkaaDoorProg
import Derived.Below
import Derived.Deep.Draws
import Derived.Deep.AppendLies
import Derived.OwnWalk
import Derived.Laws.BytesArg
import Derived.Laws.MakeOwn
import Derived.Laws.OwnMore
import Derived.Tactics
import Derived.Lib.ConvBytes
import Derived.Laws.Slices
import Derived.KernelRfl
import Derived.RowKit3
import Derived.Deep.LoopGhost
import Derived.Deep.QuietTactic
import Derived.BigQuiet
import Derived.WideLaws
import Derived.Deep.DeepCutAuto
import Derived.Deep.CutBlock
import Derived.Deep.RegionHeld3
import Derived.Laws.Rows
import Derived.Lib.AppendStr
import Derived.ArgAppend
import Derived.Laws.IdiomCopy
import Derived.OrdersHeld
import Derived.RowKit
section
set_option linter.unusedVariables false
namespace Go.DoorRound
open Go Go.RowKit
variable {P : Program} {ops : Array Oper} {Q : Exit → Act → World → Prop} {l n : Nat}
abbrev Rd (l : Nat) : Fence := Fence.wide.inRound l
theorem callsIn {f : FuncId} {args : Array Value} {w : World} {R : Ending → World → Prop} (h : Calls P f args w R) : CallsIn (Rd l) n P f args w R :=
  CallsIn.inRound l (callsIn_wide.2 h)
theorem rowsIn {row : String} {args : Array Value} {w : World} {R : Value → World → Prop} (h : Rows P row args w R) : RowsIn (Rd l) n P row args w R := by
  intro c cs _
  obtain ⟨v, w', r, s⟩ := h c cs
  exact ⟨v, w', r, stepsIn_wide.2 s⟩
theorem oper_in {o : Oper} (hd : ∀ c, o.op ≠ .defer c) {a : Act} {w : World} {K : Act → World → Prop} (h : o.wp P a w K Q) : o.wpIn (Rd l) n P a w K Q := by
  refine ⟨fun _ _ => trivial, ?_⟩
  have e : o.semAt (Rd l).round a.eval = execOp a.eval o := Oper.semAt_eq _ _ _ hd
  rw [e]
  unfold Oper.wp at h
  generalize (execOp a.eval o).run P w = r at *
  cases r with
  | ok x w' =>
    cases x <;> simp only [Oper.upon, Oper.uponIn] at h ⊢ <;>
      first
        | exact h
        | exact ⟨fun hh => by simp [Fence.wide] at hh, callsIn h⟩
        | exact ⟨fun hh => by simp [Fence.wide] at hh, rowsIn h⟩
  | halt x w' => cases x <;> simp only [Oper.upon, Oper.uponIn] at h ⊢ <;> exact h
def NoDefer (ops : Array Oper) : Prop := ∀ (i : Nat) (o : Oper), ops[i]? = some o → ∀ c, o.op ≠ .defer c
theorem wpOp_in (hd : NoDefer ops) (hl : ¬ LetsOut Q) {i : Nat} {K : Act → World → Prop} {a : Act} {w : World} (h : wpOp P ops Q i K a w) : wpOpIn (Rd l) n P ops Q i K a w := by
  unfold wpOp at h
  unfold wpOpIn
  cases ho : ops[i]? with
  | none => rw [ho] at h; exact h
  | some o =>
    rw [ho] at h
    dsimp only at h ⊢
    split
    · rename_i hw
      rw [if_pos hw] at h
      exact oper_in (hd i o ho) (h.resolve_right fun hh => hl hh.2)
    · rename_i hw
      rw [if_neg hw] at h
      exact ⟨fun _ _ => trivial, h⟩
theorem wpAny_in (hd : NoDefer ops) (hl : ¬ LetsOut Q) {md : Region.Mode} : ∀ (fuel : Nat) (listed : Array Bool) (a : Act) (w : World),
    wpAny P md ops Q fuel listed a w → wpAnyIn (Rd l) n P md ops Q fuel listed a w
  | 0, _, _, _, h => h
  | fuel + 1, listed, a, w, h => ⟨h.1, fun i hi => wpOpIn_mono (fun a' w' h' => wpAny_in hd hl fuel _ a' w' h') (wpOp_in hd hl (h.2 i hi))⟩
theorem region_in (hd : NoDefer ops) (hl : ¬ LetsOut Q) {id : Nat} {a : Act} {w : World} (hm : P.follows .mixedOrders = true)
    (h : wpAny P .any ops Q ops.size (Array.replicate ops.size false) a { w with drawn := w.drawn + 1 }) : (Code.region id ops true).wpIn (Rd l) n P Q a w :=
  wpIn_region_any hm (wpAny_in hd hl _ _ _ _ h)
def noDeferB (ops : Array Oper) : Bool := ops.toList.all fun o => match o.op with | .defer _ => false | _ => true
theorem noDefer_of (h : noDeferB ops = true) : NoDefer ops := by
  intro i o ho c hc
  have hm : o ∈ ops.toList := by
    rw [← Array.getElem?_toList] at ho
    exact List.mem_of_getElem? ho
  have := List.all_eq_true.1 h o hm
  rw [hc] at this
  cases this
end Go.DoorRound
end
section
set_option linter.unusedVariables false
set_option linter.unusedSimpArgs false
namespace Go.DoorKit
open Go.RowKit
def bk (w : World) (n : Nat) : Option Obj := w.heap[n]?
def setBk (w : World) (r : Nat) (o : Obj) : World := { w with heap := w.heap.setIfInBounds r o }
theorem bk_lt {w : World} {n : Nat} {o : Obj} (h : bk w n = some o) : n < w.heap.size := (Array.getElem?_eq_some_iff.1 h).1
@[go_sem] theorem bk_alloc_lt {w : World} {o : Obj} {n : Nat} (h : n < w.heap.size) : bk (w.alloc o) n = bk w n := Below.heap_alloc w o n h
@[go_sem] theorem bk_alloc_new {w : World} {o : Obj} : bk (w.alloc o) w.heap.size = some o := heap_alloc_new w o
@[go_sem] theorem bk_drewN {w : World} {k n : Nat} : bk (w.drewN k) n = bk w n := rfl
@[go_sem] theorem bk_drew {w : World} {n : Nat} : bk w.drew n = bk w n := rfl
@[go_sem] theorem alloc_drewN (w : World) (k : Nat) (o : Obj) : (w.drewN k).alloc o = (w.alloc o).drewN k := rfl
@[go_sem] theorem bk_setCell_ne {w : World} {p : Addr} {v : Value} {n : Nat} (h : ¬ n = p.block) : bk (w.setCell p v) n = bk w n := Below.heap_setCell w p v n h
@[go_sem] theorem size_setBk {w : World} {r : Nat} {o : Obj} : (setBk w r o).heap.size = w.heap.size := by simp [setBk]
@[go_sem] theorem bk_setBk_ne {w : World} {r : Nat} {o : Obj} {n : Nat} (h : ¬ n = r) : bk (setBk w r o) n = bk w n := by
  simp [bk, setBk, Array.getElem?_setIfInBounds]; intro h'; exact absurd h'.symm h
@[go_sem] theorem bk_setBk {w : World} {r : Nat} {o : Obj} (h : r < w.heap.size) : bk (setBk w r o) r = some o := by
  simp [bk, setBk, h]
@[go_sem] theorem setBk_drewN {w : World} {r k : Nat} {o : Obj} : setBk (w.drewN k) r o = (setBk w r o).drewN k := rfl
@[go_sem] theorem setBk_drew {w : World} {r : Nat} {o : Obj} : setBk w.drew r o = (setBk w r o).drew := rfl
@[go_sem] theorem cell?_setBk {w : World} {r : Nat} {o : Obj} {b i : Nat} (h : ¬ b = r) : (setBk w r o).cell? ⟨b, i, none⟩ = w.cell? ⟨b, i, none⟩ :=
  World.cell?_of_block (w := w) (bk_setBk_ne h)
@[go_sem] theorem frozen?_setBk {w : World} {r : Nat} {o : Obj} {b i : Nat} (h : ¬ b = r) : (setBk w r o).frozen? ⟨b, i, none⟩ = w.frozen? ⟨b, i, none⟩ :=
  World.frozen?_of_block (w := w) (bk_setBk_ne h)
theorem cell?_bk {w : World} {b : Nat} {c : Array Value} {t : TypeId} {fz : Nat × Nat} (h : bk w b = some (.cells c t fz)) (i : Nat) : w.cell? ⟨b, i, none⟩ = c[i]? := by
  unfold bk at h; simp [World.cell?, h]
theorem frozen?_bk {w : World} {b : Nat} {c : Array Value} {t : TypeId} (h : bk w b = some (.cells c t (0, 0))) (i : Nat) : w.frozen? ⟨b, i, none⟩ = false := by
  unfold bk at h; simp [World.frozen?, h]
structure Fr (S : Nat → Prop) (w w' : World) : Prop where
  os : w'.os = w.os
  tape : w'.tape = w.tape
  output : w'.output = w.output
  size : w.heap.size ≤ w'.heap.size
  block : ∀ k, k < w.heap.size → ¬ S k → bk w' k = bk w k
theorem Fr.refl (S : Nat → Prop) (w : World) : Fr S w w := ⟨rfl, rfl, rfl, Nat.le_refl _, fun _ _ _ => rfl⟩
theorem Fr.trans {S : Nat → Prop} {a b c : World} (h : Fr S a b) (k : Fr S b c) : Fr S a c :=
  ⟨k.os.trans h.os, k.tape.trans h.tape, k.output.trans h.output, Nat.le_trans h.size k.size, fun i hi hs => (k.block i (Nat.lt_of_lt_of_le hi h.size) hs).trans (h.block i hi hs)⟩
theorem Fr.drew {S : Nat → Prop} {a b : World} (h : Fr S a b) : Fr S a b.drew := ⟨h.os, h.tape, h.output, h.size, h.block⟩
theorem Fr.drewN {S : Nat → Prop} {a b : World} (h : Fr S a b) (n : Nat) : Fr S a (b.drewN n) := ⟨h.os, h.tape, h.output, h.size, h.block⟩
theorem Fr.alloc {S : Nat → Prop} {a b : World} (h : Fr S a b) (o : Obj) : Fr S a (b.alloc o) :=
  h.trans ⟨rfl, rfl, rfl, by simp, fun k hk _ => bk_alloc_lt hk⟩
theorem Fr.setCell {S : Nat → Prop} {a b : World} (h : Fr S a b) {p : Addr} (hp : p.block < a.heap.size → S p.block) (v : Value) : Fr S a (b.setCell p v) :=
  ⟨h.os, h.tape, h.output, by simpa [World.setCell] using h.size, fun i hi hn => (bk_setCell_ne (fun e => hn (by subst e; exact hp hi))).trans (h.block i hi hn)⟩
theorem Fr.setBk {S : Nat → Prop} {a b : World} (h : Fr S a b) {r : Nat} (hp : r < a.heap.size → S r) (o : Obj) : Fr S a (setBk b r o) :=
  ⟨h.os, h.tape, h.output, by simpa [Go.DoorKit.setBk] using h.size, fun i hi hn => (bk_setBk_ne (fun e => hn (by subst e; exact hp hi))).trans (h.block i hi hn)⟩
theorem Fr.below {S : Nat → Prop} {a b : World} (h : Fr S a b) (B : Nat) (hB : B ≤ a.heap.size) (hs : ∀ k, S k → B ≤ k) : Below B a b :=
  ⟨h.os, h.tape, h.output, h.size, fun k hk => h.block k (Nat.lt_of_lt_of_le hk hB) (fun hk' => absurd (hs k hk') (by omega))⟩
theorem Fr.of_below {a b : World} (h : Below a.heap.size a b) (S : Nat → Prop) : Fr S a b := ⟨h.os, h.tape, h.output, h.size, fun k hk _ => h.block k hk⟩
theorem Fr.bk {S : Nat → Prop} {a b : World} (h : Fr S a b) {k : Nat} {o : Obj} (hk : bk a k = some o) (hn : ¬ S k) : Go.DoorKit.bk b k = some o := (h.block k (bk_lt hk) hn).trans hk
theorem setRow_eq {w : World} {g : Nat} {old cs : Array Value} {t : TypeId} {fr : Nat × Nat} (h : bk w g = some (.cells old t fr)) : w.setRow g cs = setBk w g (.cells cs t fr) := by
  have hlt := bk_lt h
  have hv : w.heap[g] = .cells old t fr := (Array.getElem?_eq_some_iff.1 h).2
  unfold World.setRow setBk
  congr 1
  apply Array.ext
  · simp
  · intro i h1 h2
    rw [Array.getElem_modify, Array.getElem_setIfInBounds]
    split
    · rename_i e; subst e; simp [hv]
    · rfl
section
variable {P : Program}
theorem setBk_alloc_new {w : World} {a b : Obj} : setBk (w.alloc a) w.heap.size b = w.alloc b := by
  have h : (w.heap.push a).setIfInBounds w.heap.size b = w.heap.push b := by
    apply Array.ext_getElem?
    intro i
    rw [Array.getElem?_setIfInBounds, Array.getElem?_push, Array.getElem?_push]
    by_cases h3 : w.heap.size = i
    · subst h3; simp
    · rw [if_neg h3, if_neg (fun e => h3 e.symm), if_neg (fun e => h3 e.symm)]
  show ({ w with heap := (w.heap.push a).setIfInBounds w.heap.size b } : World) = { w with heap := w.heap.push b }
  rw [h]
theorem run_copy_part (w : World) {t t2 ty e T : TypeId} {inf : TypeInfo} (ht : P.underlying t = some (.slice e)) (hi : P.info? e = some inf)
    (g n c : Nat) (cur : Array Value) (s : ByteArray) (hg : bk w g = some (.cells cur T (0, 0))) (hc : cur.size = n) (hs : s.size ≤ n) :
    (Builtin.copy_ #[t, t2] ty #[.slice (some ⟨g, 0, none⟩) n c, .string s]).run P w = .ok (goInt s.size) (setBk w g (.cells ((s.data.toList.map fun b => Value.int .u8 b.toNat) ++ cur.toList.drop s.size).toArray T (0, 0))) := by
  have hl : (s.data.toList.map fun b => Value.int .u8 b.toNat).length = s.size := by rw [List.length_map]; simp
  have hst := run_storeCells_at P g 0 T (s.data.toList.map fun b => Value.int .u8 b.toNat) 0 cur w hg (by rw [hl, hc]; omega) (by
    intro v hv
    simp only [List.mem_map] at hv
    obtain ⟨b, _, rfl⟩ := hv; rfl)
  simp only [Nat.add_zero, Nat.zero_add, List.take_zero, List.nil_append, hl] at hst
  have hmin : s.size.min n = s.size := Nat.min_eq_left hs
  have ht2 : List.take s.size (s.data.toList.map fun b => Value.int .u8 b.toNat) = s.data.toList.map fun b => Value.int .u8 b.toNat := List.take_of_length_le (by omega)
  simp [Builtin.copy_, run_underlying ht, Builtin.lenOf, Builtin.firstCells, run_sizeOf w hi]
  rw [hmin, ht2, hst, setRow_eq hg]
  rfl
end
end Go.DoorKit
end
section
namespace Go.Proofs.YteleheamnighkaaDoor.PBase
open Go.RowKit Go.Proofs.YteleheamnighkaaDoorW.PrintWords Go.Proofs.YteleheamnighkaaDoorW.PrintLast Go.Proofs.YteleheamnighkaaDoorW.PrintMore
attribute [local go_sem] max2_int min2_int max_two min_two max_three min_three max_four min_four   -- for this text's walks alone
set_option linter.unusedVariables false
set_option linter.unusedSimpArgs false
def errW : Option Int → Value
  | none => .nilIface
  | some c => .iface 0 (.int .i64 c)
theorem errW_none : errW none = .nilIface := rfl
theorem errW_some (c : Int) : errW (some c) = .iface 0 (.int .i64 c) := rfl
end Go.Proofs.YteleheamnighkaaDoor.PBase
end
section
namespace Go.Proofs.YteleheamnighkaaDoor.PBase
open Go.RowKit Go.Proofs.YteleheamnighkaaDoorW.PrintWords Go.Proofs.YteleheamnighkaaDoorW.PrintLast Go.Proofs.YteleheamnighkaaDoorW.PrintMore
attribute [local go_sem] max2_int min2_int max_two min_two max_three min_three max_four min_four   -- for this text's walks alone
set_option linter.unusedVariables false
set_option linter.unusedSimpArgs false
def planisphereref01_Digit.j0 : Nat → Int → Bool → Option (Int)
  | 0, _, _ => none
  | k + 1, x0, x8 => if x8 = true then (some ((x0 - 48) % 256)) else (if x0 ≥ 97 then (if x0 ≤ 102 then (some (((x0 - 97) % 256) + 10)) else (some (-1))) else (some (-1)))
def planisphereref01_Digit.f (k : Nat) (a0 : Int) : Option (Int) := if a0 ≥ 48 then (planisphereref01_Digit.j0 k a0 (decide (a0 ≤ 57))) else (planisphereref01_Digit.j0 k a0 false)
mutual
def planisphereref01_Is.l0 : Nat → ByteArray → Int → Option (Bool)
  | 0, _, _ => none
  | k + 1, x0, x3 => if x3 < (x0.size : Int) then (planisphereref01_Is.j1 k x0 x3 (decide (x3 < 16))) else (planisphereref01_Is.j1 k x0 x3 false)
def planisphereref01_Is.j1 : Nat → ByteArray → Int → Bool → Option (Bool)
  | 0, _, _, _ => none
  | k + 1, x0, x3, x11 => if x11 = true then (if 0 ≤ x3 then (if x3 < (x0.size : Int) then ((planisphereref01_Digit.f k (bt x0 x3)).bind fun t104 => (if t104 < 0 then (some false) else (planisphereref01_Is.l0 k x0 (wrap64 (x3 + 1))))) else (none)) else (none)) else (some ((x0.size : Int) == 16))
end
def planisphereref01_Is.f (k : Nat) (a0 : ByteArray) : Option (Bool) := planisphereref01_Is.l0 k a0 0
def planisphereref01_Is.Pure : Prop := ∀ (a0 : ByteArray), a0.size ≤ 140737488351232 → ∃ k, planisphereref01_Is.f k a0 = some true
end Go.Proofs.YteleheamnighkaaDoor.PBase
end
