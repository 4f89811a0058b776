/- Part 1 of 3 of the proofs about pages that the claims of this seat share: contracts of the functions and the lists they compute; their conditions stand in each lemma. -/
import Derived.Laws.Bits64
import Derived.Laws.ShiftsVar
import Derived.Test.YtbffeibcndbmgaaProg
import Derived.Below
import Derived.Deep.Draws
import Derived.Deep.AppendLies
import Derived.Maps.AppendAt
import Derived.OwnWalk
import Derived.Laws.BytesArg
import Derived.Laws.MakeOwn
import Derived.Laws.OwnMore
import Derived.Deep.OwnRows
import Derived.Tactics
import Derived.Lib.ConvBytes
import Derived.Laws.Slices
import Derived.WalkKit
import Derived.KernelRfl
import Derived.RowKit3
import Derived.Deep.LoopGhost
import Derived.Deep.QuietTactic
import Derived.BigQuiet
import Derived.WideLaws
import Derived.Deep.DeepCutAuto
import Derived.Deep.CutBlock
import Derived.Deep.RegionHeld3
import Derived.Laws.Rows
import Derived.Lib.AppendStr
import Derived.ArgAppend
import Derived.Laws.IdiomCopy
import Derived.OrdersHeld
import Derived.Laws.BitsLemmas
import Derived.RowKit
import Derived.Test.YtbffeibcndbmgaaWWords
import Derived.Test.YtbffeibcndbmgaaWLast
import Derived.Test.YtbffeibcndbmgaaWTab
import Derived.Test.YtbffeibcndbmgaaWFour
import Derived.Test.YtbffeibcndbmgaaWQPut
import Derived.Test.YtbffeibcndbmgaaWApart
import Derived.Test.YtbffeibcndbmgaaWArr
import Derived.Test.YtbffeibcndbmgaaWZeros
import Derived.Test.YtbffeibcndbmgaaWFoot
import Derived.Test.YtbffeibcndbmgaaWKept
import Derived.Test.YtbffeibcndbmgaaWShare
import Derived.Test.YtbffeibcndbmgaaWN
import Derived.Test.YtbffeibcndbmgaaWFootNe
import Derived.Test.YtbffeibcndbmgaaWAt
import Derived.Test.YtbffeibcndbmgaaWEqStruct
import Derived.Test.YtbffeibcndbmgaaWRepsOne
import Derived.Test.YtbffeibcndbmgaaWInv
import Derived.Test.YtbffeibcndbmgaaWInvWords
import Derived.Test.YtbffeibcndbmgaaWGuard
import Derived.Test.YtbffeibcndbmgaaWNEv
import Derived.Test.YtbffeibcndbmgaaWMore
import Derived.Deep.RegionLaw
import Derived.Laws.CopyOwn
import Derived.WalkSpells
import Derived.WalkLawsBesides
import Derived.Lib.Hide
set_option linter.unusedVariables false
set_option linter.unusedSimpArgs false

/-! ## Crc -/
namespace Go.Proofs.Ytbffeibcndbmgaa.Crc
open Go

def poly : BitVec 64 := 4823603603198064275#64
/-- one bit on. -/
def st (c : BitVec 64) : BitVec 64 := if c.msb then (c <<< 1) ^^^ poly else c <<< 1
/-- the same, told from outside whether the poly is wanted. -/
def sr (c : BitVec 64) (t : Bool) : BitVec 64 := if t then (c <<< 1) ^^^ poly else c <<< 1
def iter : Nat → BitVec 64 → BitVec 64
  | 0, c => c
  | n + 1, c => iter n (st c)
/-- one byte on. -/
def byte (c b : BitVec 64) : BitVec 64 := iter 8 (c ^^^ (b <<< 56))

theorem st_xor (R B : BitVec 64) (m : Nat) (hm : m ≤ 63) : st (R ^^^ (B <<< m)) = sr R (R.msb != B.getLsbD (63 - m)) ^^^ (B <<< (m + 1)) := by
  have h1 : (R ^^^ (B <<< m)).msb = (R.msb != B.getLsbD (63 - m)) := by
    rw [BitVec.msb_xor, BitVec.msb_shiftLeft, BitVec.getMsbD]
    have : m < 64 := by omega
    simp only [this, decide_true, Bool.true_and]
  have h2 : (R ^^^ (B <<< m)) <<< 1 = (R <<< 1) ^^^ (B <<< (m + 1)) := by
    rw [BitVec.shiftLeft_xor_distrib, BitVec.shiftLeft_add]
  unfold st sr
  rw [h1, h2]
  split
  · rw [BitVec.xor_assoc, BitVec.xor_comm (B <<< (m + 1)) poly, ← BitVec.xor_assoc]
  · rfl

theorem st_lin (X Y : BitVec 64) : st (X ^^^ Y) = st X ^^^ st Y := by
  unfold st
  rw [BitVec.msb_xor, BitVec.shiftLeft_xor_distrib]
  cases hx : X.msb <;> cases hy : Y.msb <;> simp only [Bool.false_xor, Bool.true_xor, Bool.not_true, Bool.not_false, if_true, if_false, Bool.false_eq_true]
  · rw [BitVec.xor_assoc]
  · rw [BitVec.xor_assoc, BitVec.xor_assoc, BitVec.xor_comm poly]
  · have e : ∀ a b p : BitVec 64, (a ^^^ p) ^^^ (b ^^^ p) = a ^^^ b := by
      intro a b p
      rw [BitVec.xor_comm b p, BitVec.xor_assoc, ← BitVec.xor_assoc p p b, BitVec.xor_self, BitVec.zero_xor]
    rw [e]

theorem st_zero {X : BitVec 64} (h : st X = 0#64) : X = 0#64 := by
  unfold st at h
  split at h
  · exfalso
    have h2 := congrArg (fun v => BitVec.getLsbD v 0) h
    simp only [BitVec.getLsbD_xor] at h2
    have h3 : (X <<< 1).getLsbD 0 = false := by simp [BitVec.getLsbD_shiftLeft]
    have h4 : poly.getLsbD 0 = true := by decide
    rw [h3, h4] at h2
    simp at h2
  · rename_i hm
    have hm : X.msb = false := by simpa using hm
    apply BitVec.eq_of_toNat_eq
    have h1 := congrArg BitVec.toNat h
    rw [BitVec.toNat_shiftLeft, Nat.shiftLeft_eq] at h1
    rw [BitVec.msb_eq_decide] at hm
    simp at h1 hm
    have := X.isLt
    simp
    omega

theorem st_inj {X Y : BitVec 64} (h : st X = st Y) : X = Y := by
  have h1 : st (X ^^^ Y) = 0#64 := by rw [st_lin, h, BitVec.xor_self]
  have h2 := st_zero h1
  have h3 : (X ^^^ Y) ^^^ Y = 0#64 ^^^ Y := by rw [h2]
  rwa [BitVec.xor_assoc, BitVec.xor_self, BitVec.xor_zero, BitVec.zero_xor] at h3

theorem iter_inj : ∀ (n : Nat) {X Y : BitVec 64}, iter n X = iter n Y → X = Y
  | 0, _, _, h => h
  | n + 1, _, _, h => st_inj (iter_inj n h)

theorem xor_right {a b c : BitVec 64} (h : a ^^^ c = b ^^^ c) : a = b := by
  have h3 : (a ^^^ c) ^^^ c = (b ^^^ c) ^^^ c := by rw [h]
  simpa [BitVec.xor_assoc] using h3

/-- Another sum so far: another sum behind a byte. -/
theorem byte_inj_left {c d b : BitVec 64} (h : byte c b = byte d b) : c = d := xor_right (iter_inj 8 h)
/-- Another byte: another sum. -/
theorem byte_inj_right {c b d : BitVec 64} (hb : b.toNat < 256) (hd : d.toNat < 256) (h : byte c b = byte c d) : b = d := by
  have h1 := iter_inj 8 h
  rw [BitVec.xor_comm c, BitVec.xor_comm c] at h1
  have h2 := xor_right h1
  have h3 := congrArg BitVec.toNat h2
  rw [BitVec.toNat_shiftLeft, BitVec.toNat_shiftLeft, Nat.shiftLeft_eq, Nat.shiftLeft_eq] at h3
  apply BitVec.eq_of_toNat_eq
  omega

/-! ### the program's numbers -/
/-- a number of the machine as 64 bits, and back. -/
def up (n : Int) : BitVec 64 := BitVec.ofInt 64 n
theorem up_lit (n : Nat) (h : n < 18446744073709551616) : ((up (n : Int)).toNat : Int) = n := by
  unfold up
  rw [BitVec.ofInt_natCast, BitVec.toNat_ofNat, Nat.mod_eq_of_lt (by omega)]

theorem two_times (X : BitVec 64) : IntKind.u64.wrap ((X.toNat : Int) * 2) = ((X <<< 1).toNat : Int) := by
  rw [IntKind.wrap_u64, BitVec.toNat_shiftLeft, Nat.shiftLeft_eq]
  have := X.isLt
  omega

theorem top (X : BitVec 64) : ((X.toNat : Int) / 9223372036854775808) = if X.msb then 1 else 0 := by
  rw [BitVec.msb_eq_decide]
  have := X.isLt
  split <;> rename_i h <;> simp at h <;> omega

theorem xor_nat (X Y : BitVec 64) : bits .xor .u64 (X.toNat : Int) (Y.toNat : Int) = ((X ^^^ Y).toNat : Int) := by
  rw [bits_xor_u64_nat _ _ (by have := X.isLt; omega) (by have := Y.isLt; omega), BitVec.toNat_xor]

theorem and_all : bits .and .u64 4823603603198064275 (IntKind.u64.wrap (-1)) = (poly.toNat : Int) := by decide +kernel
theorem and_none : bits .and .u64 4823603603198064275 (IntKind.u64.wrap 0) = ((0#64).toNat : Int) := by decide +kernel

/-- the program's step. -/
theorem prog_step (X : BitVec 64) : bits .xor .u64 (IntKind.u64.wrap ((X.toNat : Int) * 2)) (bits .and .u64 4823603603198064275 (IntKind.u64.wrap (-((X.toNat : Int) / 9223372036854775808)))) = ((st X).toNat : Int) := by
  rw [two_times, top]
  unfold st
  cases X.msb
  · simp only [Bool.false_eq_true, if_false, Int.neg_zero]
    rw [and_none, xor_nat, BitVec.xor_zero]
  · simp only [if_true]
    rw [and_all, xor_nat]

theorem prog_in (X : BitVec 64) (b : Nat) (hb : b < 256) : bits .xor .u64 (X.toNat : Int) (IntKind.u64.wrap ((IntKind.u64.wrap (b : Int)) * 72057594037927936)) = ((X ^^^ (BitVec.ofNat 64 b <<< 56)).toNat : Int) := by
  have e : IntKind.u64.wrap ((IntKind.u64.wrap (b : Int)) * 72057594037927936) = ((BitVec.ofNat 64 b <<< 56).toNat : Int) := by
    rw [IntKind.wrap_u64, IntKind.wrap_u64, BitVec.toNat_shiftLeft, Nat.shiftLeft_eq, BitVec.toNat_ofNat]
    omega
  rw [e, xor_nat]

/-- the reference's step. -/
theorem ref_step (X : BitVec 64) (t : Bool) : (if t then bits .xor .u64 (IntKind.u64.wrap ((X.toNat : Int) * 2)) 4823603603198064275 else IntKind.u64.wrap ((X.toNat : Int) * 2)) = ((sr X t).toNat : Int) := by
  unfold sr
  rw [two_times]
  cases t
  · rfl
  · simp only [if_true]
    exact xor_nat (X <<< 1) poly

theorem bit_one (a b : Nat) (ha : a < 2) (hb : b < 2) : bits .xor .u64 (a : Int) (bits .and .u64 (b : Int) 1) = if a = b then 0 else 1 := by
  rcases (show a = 0 ∨ a = 1 by omega) with rfl | rfl <;> rcases (show b = 0 ∨ b = 1 by omega) with rfl | rfl <;> decide +kernel

end Go.Proofs.Ytbffeibcndbmgaa.Crc

/-! ## PPageStepsx0 -/
namespace Go.Proofs.Ytbffeibcndbmgaa.PPageSteps
open Go.RowKit Go.Proofs.YtbffeibcndbmgaaW.PrintWords Go.Proofs.YtbffeibcndbmgaaW.PrintLast Go.Proofs.YtbffeibcndbmgaaW.PrintMore
attribute [local go_sem] max2_int min2_int max_two min_two max_three min_three max_four min_four   -- for this text's walks alone
set_option linter.unusedVariables false
set_option linter.unusedSimpArgs false



def errW : Option Int → Value
  | none => .nilIface
  | some c => .iface 0 (.int .i64 c)
theorem errW_none : errW none = .nilIface := rfl
theorem errW_some (c : Int) : errW (some c) = .iface 0 (.int .i64 c) := rfl

theorem info5 : (Try.prog.info? 5).map (fun i => (i.zero, i.size, i.bytes)) = some (some (.int .u8 0), 1, 1) := by kernel_rfl
theorem info59 : (Try.prog.info? 59).map (fun i => (i.zero, i.size, i.bytes)) = some (some (.agg #[(.slice none 0 0), (.bool false)]), 2, 32) := by kernel_rfl
-- the values' own types
def rd_L1 (xs : List (List Int)) (i : Int) : (List Int) := xs.getD i.toNat ([] : List Int)
theorem at_L1 {w : World} {A : Option Addr} {n : Nat} {xs : List (List Int)} (h : Kd.C (Kd.slice 5 (Kd.int .u8)) w A n xs) (i : Int) (h0 : 0 ≤ i) (h1 : i < n) : ∃ ad A0 c0, A = some ad ∧ w.cell? (ad.add i.toNat) = some (.slice A0 (rd_L1 xs i).length c0) ∧ (rd_L1 xs i).length ≤ c0 ∧ (Kd.int .u8).C w A0 (rd_L1 xs i).length (rd_L1 xs i) := by
  obtain ⟨ad, c, e, _, hK, hc0⟩ := Kd.C_get h ([] : List Int) i h0 h1
  have hc : ∀ j u, c[j]? = some u → w.cell? (ad.add (i.toNat * 1 + j)) = some u := hc0
  obtain ⟨A0, c0, rfl, l0, g0⟩ := hK
  exact ⟨ad, A0, c0, e, by have hq := hc 0 _ rfl; rwa [Nat.mul_one, Nat.add_zero] at hq, l0, g0⟩

/-! #### struct type 59 -/
structure S59 where
  f0 : (List Int)
  f1 : Bool
def z59 : S59 := ⟨([] : List Int), false⟩
def k59 : Kd S59 := Kd.iso (Kd.pair (Kd.slice 5 (Kd.int .u8)) Kd.bool) (fun x : S59 => (x.f0, x.f1))
theorem k59_open {w : World} {x : S59} {cs : List Value} (h : k59.K w x cs) : ∃ A0 c0, cs = [.slice A0 x.f0.length c0, .bool x.f1] ∧ x.f0.length ≤ c0 ∧ (Kd.int .u8).C w A0 x.f0.length x.f0 := by
  obtain ⟨_, _, rfl, ⟨A0, c0, rfl, l0, g0⟩, rfl⟩ := h
  exact ⟨A0, c0, rfl, l0, g0⟩
theorem k59_openM {w : World} {base : Nat} {ok : Nat → Prop} {x : S59} {cs : List Value} (h : k59.M w base ok x cs) : ∃ v0, cs = [v0, .bool x.f1] ∧ (Kd.int .u8).R 5 w base ok v0 x.f0 := by
  obtain ⟨_, _, rfl, ⟨v0, rfl, g0⟩, rfl⟩ := h
  exact ⟨v0, rfl, g0⟩
theorem k59_mk (w : World) (x : S59) {A0 : Option Addr} {c0 : Nat} (l0 : x.f0.length ≤ c0) (g0 : (Kd.int .u8).C w A0 x.f0.length x.f0) : k59.K w x [.slice A0 x.f0.length c0, .bool x.f1] := ⟨[.slice A0 x.f0.length c0], [.bool x.f1], rfl, ⟨A0, c0, rfl, l0, g0⟩, rfl⟩
theorem k59_mkM (w : World) (base : Nat) (ok : Nat → Prop) (x : S59) {v0 : Value} (g0 : (Kd.int .u8).R 5 w base ok v0 x.f0) : k59.M w base ok x [v0, .bool x.f1] := ⟨[v0], [.bool x.f1], rfl, ⟨v0, rfl, g0⟩, rfl⟩
theorem k59_openF {W : World} {ok : Nat → Prop} {x : S59} {cs : List Value} (h : Kd.FK k59 W ok x cs) : ∃ A0 c0, cs = [.slice A0 x.f0.length c0, .bool x.f1] ∧ x.f0.length ≤ c0 ∧ Kd.F (Kd.int .u8) W ok A0 x.f0.length x.f0 := by
  obtain ⟨A0, c0, rfl, l0, _⟩ := k59_open (Kd.FK_now h)
  exact ⟨A0, c0, rfl, l0, (fun W' hW => by obtain ⟨A0_, c0_, he, l0_, g0_⟩ := k59_open (h W' hW); injection (Option.some.inj (show some (Value.slice A0 x.f0.length c0) = some (Value.slice A0_ x.f0.length c0_) from congrArg (fun l => l[0]?) he)) with ha_ _ _; rw [ha_]; exact g0_)⟩
theorem k59_mkF (W : World) (ok : Nat → Prop) (x : S59) {A0 : Option Addr} {c0 : Nat} (l0 : x.f0.length ≤ c0) (g0 : Kd.F (Kd.int .u8) W ok A0 x.f0.length x.f0) : Kd.FK k59 W ok x [.slice A0 x.f0.length c0, .bool x.f1] := fun W2 hW => k59_mk W2 x l0 (g0 W2 hW)
def rd_T59 (xs : List S59) (i : Int) : S59 := xs.getD i.toNat z59
theorem at_T59 {w : World} {A : Option Addr} {n : Nat} {xs : List S59} (h : Kd.C k59 w A n xs) (i : Int) (h0 : 0 ≤ i) (h1 : i < n) : ∃ ad A0 c0, A = some ad ∧ w.cell? (ad.add (i.toNat * 2)) = some (.slice A0 (rd_T59 xs i).f0.length c0) ∧ w.cell? ⟨(ad.add (i.toNat * 2)).block, (ad.add (i.toNat * 2)).off + 1, none⟩ = some (.bool (rd_T59 xs i).f1) ∧ (rd_T59 xs i).f0.length ≤ c0 ∧ (Kd.int .u8).C w A0 (rd_T59 xs i).f0.length (rd_T59 xs i).f0 := by
  obtain ⟨ad, c, e, _, hK, hc0⟩ := Kd.C_get h z59 i h0 h1
  have hc : ∀ j u, c[j]? = some u → w.cell? (ad.add (i.toNat * 2 + j)) = some u := hc0
  obtain ⟨A0, c0, rfl, l0, g0⟩ := k59_open hK
  exact ⟨ad, A0, c0, e, hc 0 _ rfl, by rw [← add_field _ _ 1 (by omega)]; exact hc 1 _ rfl, l0, g0⟩

end Go.Proofs.Ytbffeibcndbmgaa.PPageSteps

/-! ## Gen -/
namespace Go.Proofs.Ytbffeibcndbmgaa.PPageSteps
open Go.RowKit Go.Proofs.YtbffeibcndbmgaaW.PrintWords Go.Proofs.YtbffeibcndbmgaaW.PrintLast Go.Proofs.YtbffeibcndbmgaaW.PrintMore
attribute [local go_sem] max2_int min2_int max_two min_two max_three min_three max_four min_four   -- for this text's walks alone
set_option linter.unusedVariables false
set_option linter.unusedSimpArgs false

/-! ### longstoplaw01_Lent: function 6 -/
def longstoplaw01_Lent.f (l0 : List Int) : Option (List Int) := (some (([] : List Int) : List Int)).bind fun y101 => (if y101.length + l0.length < 140737488355328 then ((some (y101 ++ l0 : List Int)).bind fun y104 => ((some (([55, 56] : List Int) : List Int)).bind fun y107 => (if y104.length + y107.length < 140737488355328 then ((some (y104 ++ y107 : List Int)).bind fun y110 => (if 0 ≤ (l0.length : Int) then (if (l0.length : Int) ≤ (y110.length : Int) then (some (y110.take ((l0.length : Int) : Int).toNat)) else (none)) else (none))) else (none)))) else (none))
set_option maxHeartbeats 8000000 in
set_option maxRecDepth 100000 in
theorem longstoplaw01_Lent.calls (A0 : Option Addr) (c0 : Nat) (l0 : List Int) (r : List Int) (w : World) (hr0 : Kd.C (Kd.int .u8) w A0 l0.length l0) (hc0 : l0.length ≤ c0) (h : longstoplaw01_Lent.f l0 = some r) :
    Calls Try.prog 6 #[.slice A0 l0.length c0] w fun e w' => ∃ v0_ : Value, e = .returned (v0_) ∧ Kd.R (Kd.int .u8) 5 w' w.heap.size (fun _ => True) v0_ r ∧ Below w.heap.size w w' := by
  have HR0 := Aside0.mk hr0
  have HC0 := Aside0.mk hc0
  clear hr0 hc0
  have HB := Aside0.mk (Below.refl w.heap.size w)
  have H : ((some (([] : List Int) : List Int)).bind fun y101 => (if y101.length + l0.length < 140737488355328 then ((some (y101 ++ l0 : List Int)).bind fun y104 => ((some (([55, 56] : List Int) : List Int)).bind fun y107 => (if y104.length + y107.length < 140737488355328 then ((some (y104 ++ y107 : List Int)).bind fun y110 => (if 0 ≤ (l0.length : Int) then (if (l0.length : Int) ≤ (y110.length : Int) then (some (y110.take ((l0.length : Int) : Int).toNat)) else (none)) else (none))) else (none)))) else (none))) = some r := h
  clear h
  obtain ⟨y101, hy101⟩ : ∃ y_ : List Int, y_ = (([] : List Int)) := ⟨_, rfl⟩
  replace H : (if y101.length + l0.length < 140737488355328 then ((some (y101 ++ l0 : List Int)).bind fun y104 => ((some (([55, 56] : List Int) : List Int)).bind fun y107 => (if y104.length + y107.length < 140737488355328 then ((some (y104 ++ y107 : List Int)).bind fun y110 => (if 0 ≤ (l0.length : Int) then (if (l0.length : Int) ≤ (y110.length : Int) then (some (y110.take ((l0.length : Int) : Int).toNat)) else (none)) else (none))) else (none)))) else (none)) = some r := by first | (rw [hy101]; with_reducible exact H) | (have H2_ := (Option.bind_some _ _).symm.trans H; rw [hy101]; with_reducible exact H2_) | (have H2_ := (Option.bind_some _ _).symm.trans H; with_reducible exact H2_) | with_reducible exact H | (rw [hy101]; exact H) | exact H
  have Ny101 := Aside0.mk hy101
  clear hy101
  by_cases c2 : y101.length + l0.length < 140737488355328
  · rw [if_pos c2] at H
    have LMc2 := Aside0.mk c2
    clear c2
    obtain ⟨y104, hy104⟩ : ∃ y_ : List Int, y_ = (y101 ++ l0) := ⟨_, rfl⟩
    replace H : ((some (([55, 56] : List Int) : List Int)).bind fun y107 => (if y104.length + y107.length < 140737488355328 then ((some (y104 ++ y107 : List Int)).bind fun y110 => (if 0 ≤ (l0.length : Int) then (if (l0.length : Int) ≤ (y110.length : Int) then (some (y110.take ((l0.length : Int) : Int).toNat)) else (none)) else (none))) else (none))) = some r := by first | (rw [hy104]; with_reducible exact H) | (have H2_ := (Option.bind_some _ _).symm.trans H; rw [hy104]; with_reducible exact H2_) | (have H2_ := (Option.bind_some _ _).symm.trans H; with_reducible exact H2_) | with_reducible exact H | (rw [hy104]; exact H) | exact H
    have Ny104 := Aside0.mk hy104
    clear hy104
    obtain ⟨y107, hy107⟩ : ∃ y_ : List Int, y_ = (([55, 56] : List Int)) := ⟨_, rfl⟩
    replace H : (if y104.length + y107.length < 140737488355328 then ((some (y104 ++ y107 : List Int)).bind fun y110 => (if 0 ≤ (l0.length : Int) then (if (l0.length : Int) ≤ (y110.length : Int) then (some (y110.take ((l0.length : Int) : Int).toNat)) else (none)) else (none))) else (none)) = some r := by first | (rw [hy107]; with_reducible exact H) | (have H2_ := (Option.bind_some _ _).symm.trans H; rw [hy107]; with_reducible exact H2_) | (have H2_ := (Option.bind_some _ _).symm.trans H; with_reducible exact H2_) | with_reducible exact H | (rw [hy107]; exact H) | exact H
    have Ny107 := Aside0.mk hy107
    clear hy107
    by_cases c3 : y104.length + y107.length < 140737488355328
    · rw [if_pos c3] at H
      have LMc3 := Aside0.mk c3
      clear c3
      obtain ⟨y110, hy110⟩ : ∃ y_ : List Int, y_ = (y104 ++ y107) := ⟨_, rfl⟩
      replace H : (if 0 ≤ (l0.length : Int) then (if (l0.length : Int) ≤ (y110.length : Int) then (some (y110.take ((l0.length : Int) : Int).toNat)) else (none)) else (none)) = some r := by first | (rw [hy110]; with_reducible exact H) | (have H2_ := (Option.bind_some _ _).symm.trans H; rw [hy110]; with_reducible exact H2_) | (have H2_ := (Option.bind_some _ _).symm.trans H; with_reducible exact H2_) | with_reducible exact H | (rw [hy110]; exact H) | exact H
      have Ny110 := Aside0.mk hy110
      clear hy110
      by_cases c4 : 0 ≤ (l0.length : Int)
      · rw [if_pos c4] at H
        have c4b0 := eq_true c4
        have c4b1 : decide (0 ≤ (l0.length : Int)) = true := decide_eq_true c4
        clear c4
        by_cases c5 : (l0.length : Int) ≤ (y110.length : Int)
        · rw [if_pos c5] at H
          have c5b0 := eq_true c5
          have c5b1 : decide ((l0.length : Int) ≤ (y110.length : Int)) = true := decide_eq_true c5
          clear c5
          obtain ⟨y113, hy113⟩ : ∃ y_ : List Int, y_ = (y110.take ((l0.length : Int) : Int).toNat) := ⟨_, rfl⟩
          replace H : (some y113) = some r := by first | (rw [hy113]; with_reducible exact H) | (have H2_ := (Option.bind_some _ _).symm.trans H; rw [hy113]; with_reducible exact H2_) | (have H2_ := (Option.bind_some _ _).symm.trans H; with_reducible exact H2_) | with_reducible exact H | (rw [hy113]; exact H) | exact H
          have Ny113 := Aside0.mk hy113
          clear hy113
          obtain rfl := Option.some.inj H
          go_enter Try.func6, Try.ntmps6
          go_wp2_with (first | ((with_reducible refine gate_dst (N := 4) rfl ?_); refine Kd.R_lit (Kd.int .u8) _ 5 ?hg (N := 4) ?hd (xs := ([] : List Int)) (inner := []) (ok := fun _ => True) (okp := fun _ => True) ?hr ?hp (fun _ hk => hk) trivial (Below.refl _ _) (Nat.le_refl _) (by simp) ?_; (case hd => rfl); (case hg => rfl); (case hr => first | (go_simp; done) | (go_simp; rfl)); (case hp => exact (Reps.none _ _)); intro v102 w6 ho7 hb hg_ hnew_; clear hg_ hnew_; (first | rw [← Ny101.out] at ho7 | (simp only [Int.reduceToNat] at ho7; rw [← Ny101.out] at ho7)); have n0_ := Aside0.mk (Kd.R_lower ho7 (below_size (by repeat (first | (with_reducible first | exact HB.out | apply below_alloc | apply pw_below_drewN | apply below_drew1) | exact HB.out)))); have n1_ := Aside0.mk (below_step (by repeat (first | (with_reducible first | exact HB.out | apply below_alloc | apply pw_below_drewN | apply below_drew1) | exact HB.out)) hb); clear HB; have HO103 := n0_; have HB := n1_; clear n0_ n1_; clear hb ho7) | ((with_reducible refine gate_builtin (b := .append) (xs := #[.tmp 4, .tmp 5]) rfl ?_); at_builtin; refine Kd.R_append_rows (Kd.int .u8) (w0 := w) w.heap.size rfl (.tmp 4) (.tmp 5) 22 5 (.int .u8 0) 1 rfl Try.underlying22 info5 rfl (by decide) (by omega) v102 y101 l0 _ _ _ (fun _ => True) (fun _ => False) rfl rfl ?aO ?aR (fun _ _ h => h) (fun _ h => h.elim) ?aF ?aB ?aS ?aL ?_; (case aR => repeat (first | exact (Kd.C_below HR0.out HB.out) | (with_reducible refine Kd.C_alloc ?_ _) | (with_reducible refine Kd.C_drewN ?_ _) | (with_reducible refine Kd.C_drew ?_))); (case aB => exact (by repeat (first | (with_reducible first | exact HB.out | apply below_alloc | apply pw_below_drewN | apply below_drew1) | exact HB.out))); (case aF => exact (fun _ _ => trivial)); (case aO => exact (by (with_reducible repeat (first | apply Kd.R_alloc | apply Kd.R_drewN | apply Kd.R_drew)); exact HO103.out)); (case aS => exact (below_size (by repeat (first | (with_reducible first | exact HB.out | apply below_alloc | apply pw_below_drewN | apply below_drew1) | exact HB.out)))); (case aL => have := LMc2.out; omega); intro v105 w8 ho hb hg hat; rw [← Ny104.out] at ho; have n0_ := Aside0.mk (hb); have n1_ := Aside0.mk (ho); clear HB; clear HO103; have HB := n0_; have HO106 := n1_; clear n0_ n1_; clear ho hb hg hat) | ((with_reducible refine gate_dst (N := 8) rfl ?_); refine Kd.R_lit (Kd.int .u8) _ 5 ?hg (N := 8) ?hd (xs := ([55, 56] : List Int)) (inner := [.int .u8 55, .int .u8 56]) (ok := fun _ => True) (okp := fun _ => True) ?hr ?hp (fun _ hk => hk) trivial (Below.refl _ _) (Nat.le_refl _) (by simp) ?_; (case hd => rfl); (case hg => rfl); (case hr => first | (go_simp; done) | (go_simp; rfl)); (case hp => exact (Reps.one (show Kd.M (Kd.int .u8) _ _ _ 55 [.int .u8 55] from rfl) (Reps.one (show Kd.M (Kd.int .u8) _ _ _ 56 [.int .u8 56] from rfl) (Reps.none _ _)))); intro v108 w9 ho10 hb hg_ hnew_; clear hg_ hnew_; (first | rw [← Ny107.out] at ho10 | (simp only [Int.reduceToNat] at ho10; rw [← Ny107.out] at ho10)); have n0_ := Aside0.mk (Kd.R_elder' (by (with_reducible repeat (first | apply Kd.R_alloc | apply Kd.R_drewN | apply Kd.R_drew)); exact HO106.out) (Kd.R_base ho10) hb); have n1_ := Aside0.mk (Kd.R_lower (Kd.R_new' ho10 (Kd.R_lt (by (with_reducible repeat (first | apply Kd.R_alloc | apply Kd.R_drewN | apply Kd.R_drew)); exact HO106.out))) (below_size (by repeat (first | (with_reducible first | exact HB.out | apply below_alloc | apply pw_below_drewN | apply below_drew1) | exact HB.out)))); have n2_ := Aside0.mk (below_step (by repeat (first | (with_reducible first | exact HB.out | apply below_alloc | apply pw_below_drewN | apply below_drew1) | exact HB.out)) hb); clear HO106; clear HB; have HO106 := n0_; have HO109 := n1_; have HB := n2_; clear n0_ n1_ n2_; clear hb ho10; obtain ⟨Ao12, co12, eo12⟩ := Kd.R_slice HO109.out; subst eo12) | ((with_reducible refine gate_builtin (b := .append) (xs := #[.tmp 7, .tmp 8]) rfl ?_); at_builtin; refine Kd.R_append_rows (Kd.int .u8) (w0 := w) w.heap.size rfl (.tmp 7) (.tmp 8) 22 5 (.int .u8 0) 1 rfl Try.underlying22 info5 rfl (by decide) (by omega) v105 y104 y107 _ _ _ (fun k_ => some k_ ≠ (.slice Ao12 y107.length co12 : Value).ownBlock) (fun _ => False) rfl rfl ?aO ?aR (fun _ _ h => h) (fun _ h => h.elim) ?aF ?aB ?aS ?aL ?_; (case aR => repeat (first | exact (Kd.R_reads' HO109.out).2.2 | (with_reducible refine Kd.C_alloc ?_ _) | (with_reducible refine Kd.C_drewN ?_ _) | (with_reducible refine Kd.C_drew ?_))); (case aB => exact (by repeat (first | (with_reducible first | exact HB.out | apply below_alloc | apply pw_below_drewN | apply below_drew1) | exact HB.out))); (case aF => exact (fun k_ hk => Kd.fresh' (Kd.R_lt (by (with_reducible repeat (first | apply Kd.R_alloc | apply Kd.R_drewN | apply Kd.R_drew)); exact HO109.out)) k_ hk)); (case aO => exact (by (with_reducible repeat (first | apply Kd.R_alloc | apply Kd.R_drewN | apply Kd.R_drew)); exact Kd.R_mono HO106.out (fun _ hk => hk.2))); (case aS => exact (below_size (by repeat (first | (with_reducible first | exact HB.out | apply below_alloc | apply pw_below_drewN | apply below_drew1) | exact HB.out)))); (case aL => have := LMc3.out; omega); intro v111 w11 ho hb hg hat; rw [← Ny110.out] at ho; have n0_ := Aside0.mk (Kd.R_after (ok := (fun _ => True)) (by (with_reducible repeat (first | apply Kd.R_alloc | apply Kd.R_drewN | apply Kd.R_drew)); exact HO109.out) hg hat); have n1_ := Aside0.mk (hb); have n2_ := Aside0.mk (ho); clear HO109; clear HB; clear HO106; have HO109 := n0_; have HB := n1_; have HO112 := n2_; clear n0_ n1_ n2_; clear ho hb hg hat; obtain ⟨Ao13, co13, eo13⟩ := Kd.R_slice HO112.out; subst eo13; have q14 : ((l0.length : Int) : Int) ≤ ((y110.length : Int) : Int) := of_decide_eq_true (by first | (with_reducible assumption) | assumption); obtain ⟨i014, hi014, _, hsz14, _⟩ := info_parts info5; have hcut14 := cut_to (P := Try.prog) 22 5 .i64 Try.underlying22 hi014 Ao13 y110.length co13 (l0.length : Int) (of_decide_eq_true (by first | (with_reducible assumption) | assumption)) q14 (Kd.R_reads' HO112.out).2.1; have hr14 := Kd.R_take (m := ((l0.length : Int) : Int).toNat) HO112.out (by omega); have hy14 : y113.length = ((l0.length : Int) : Int).toNat := (by rw [Ny113.out, List.length_take]; omega); rw [← Ny113.out] at hr14; rw [← hy14] at hr14 hcut14; clear hy14 hi014 hsz14 HO112; have HO115 := Aside0.mk hr14; clear hr14; replace q14 := eq_true q14))
          go_ret
          exact ⟨_, by first | rfl | (simp [errW_none, errW_some] <;> rfl) | (simp [*, errW_none, errW_some] <;> rfl), by (with_reducible repeat (first | apply Kd.R_alloc | apply Kd.R_drewN | apply Kd.R_drew)); exact Kd.R_mono HO115.out (fun _ hk => trivial), by repeat (first | (with_reducible first | exact HB.out | apply below_alloc | apply pw_below_drewN | apply below_drew1) | exact HB.out)⟩
        · rw [if_neg c5] at H
          exact absurd H (by simp)
      · rw [if_neg c4] at H
        exact absurd H (by simp)
    · rw [if_neg c3] at H
      exact absurd H (by simp)
  · rw [if_neg c2] at H
    exact absurd H (by simp)

/-! ### page_slots_room: function 28 -/
def page_slots_room.l0 : Nat → Int → List (List Int) → Int → Int → Option (Int)
  | 0, _, _, _, _ => none
  | k + 1, x3, x10, x11, x12 => if x12 < x11 then (if 0 ≤ x12 then (if x12 < (x10.length : Int) then (page_slots_room.l0 k (wrap64 (x3 - ((rd_L1 x10 x12).length : Int))) x10 x11 (wrap64 (x12 + 1))) else (none)) else (none)) else (some x3)
def page_slots_room.f (k : Nat) (l0 : List (List Int)) : Option (Int) := page_slots_room.l0 k (wrap64 (502 - (wrap64 (4 * (l0.length : Int))))) l0 (l0.length : Int) 0
theorem page_slots_room.mono_l : ∀ k, (∀ y0 y1 y2 y3, LeO (page_slots_room.l0 k y0 y1 y2 y3) (page_slots_room.l0 (k + 1) y0 y1 y2 y3))
  | 0 => fun _ _ _ _ r h => by simp [page_slots_room.l0] at h
  | k + 1 => by
    have ih0 := page_slots_room.mono_l k
    · intro y0 y1 y2 y3
      unfold page_slots_room.l0
      repeat' first
      | (with_reducible exact ih0 _ _ _ _)
      | (with_reducible exact LeO.refl _)
      | (with_reducible exact LeO.none _)
      | (with_reducible refine LeO.ite ?_ ?_)
      | (with_reducible refine LeO.bind ?_ (fun _ => ?_))
      | exact ih0 _ _ _ _
      | exact LeO.none _
      | refine LeO.ite ?_ ?_
      | refine LeO.bind ?_ (fun _ => ?_)
theorem page_slots_room.mono : ∀ a0 k, LeO (page_slots_room.f k a0) (page_slots_room.f (k + 1) a0) := by
  intro a0 k
  have ih0 := page_slots_room.mono_l k
  unfold page_slots_room.f
  repeat' first
      | (with_reducible exact ih0 _ _ _ _)
      | (with_reducible exact LeO.refl _)
      | (with_reducible exact LeO.none _)
      | (with_reducible refine LeO.ite ?_ ?_)
      | (with_reducible refine LeO.bind ?_ (fun _ => ?_))
      | exact ih0 _ _ _ _
      | exact LeO.none _
      | refine LeO.ite ?_ ?_
      | refine LeO.bind ?_ (fun _ => ?_)
set_option maxHeartbeats 8000000 in
set_option maxRecDepth 100000 in
theorem page_slots_room.calls (k : Nat) (A0 : Option Addr) (c0 : Nat) (l0 : List (List Int)) (r : Int) (w : World) (hr0 : Kd.C (Kd.slice 5 (Kd.int .u8)) w A0 l0.length l0) (hc0 : l0.length ≤ c0) (h : page_slots_room.f k l0 = some r) :
    Calls Try.prog 28 #[.slice A0 l0.length c0] w fun e w' => e = .returned (.int .i64 r) ∧ Drawn0 w w' := by
  have HR0 := Aside0.mk hr0
  have HC0 := Aside0.mk hc0
  clear hr0 hc0
  have H : (page_slots_room.l0 k (wrap64 (502 - (wrap64 (4 * (l0.length : Int))))) l0 (l0.length : Int) 0) = some r := h
  clear h
  have H' := Aside0.mk H
  clear H
  go_enter Try.func28, Try.ntmps28
  go_wp2
  go_loopg [3, 12] k (fun kq v3 v12 w' => ∃ (x3_1 : Int) (x12_1 : Int), v3 = .int .i64 x3_1 ∧ v12 = .int .i64 x12_1 ∧ Aside0 (page_slots_room.l0 kq x3_1 l0 (l0.length : Int) x12_1 = some r) ∧ Aside0 (kq ≤ k) ∧ Drawn0 w w')
  case atStart => exact ⟨(wrap64 (502 - (wrap64 (4 * (l0.length : Int))))), (0), (by first | rfl | (simp; done) | (simp [*]; done)), (by first | rfl | (simp; done) | (simp [*]; done)), H', ⟨Nat.le_refl _⟩, by repeat (first | exact Drawn0.refl _ | apply Drawn0.step)⟩
  case round =>
    clear H'
    obtain ⟨x3_1, x12_1, rfl, rfl, HA, HK1, ⟨m1, rfl⟩⟩ := hrel
    cases gk with
    | zero => exact absurd HA.out (by simp [page_slots_room.l0])
    | succ k1 =>
      have H := HA.out
      clear HA
      simp only [page_slots_room.l0] at H
      by_cases c2 : x12_1 < (l0.length : Int)
      · rw [if_pos c2] at H
        have c2b0 : decide (x12_1 < (l0.length : Int)) = true := decide_eq_true c2
        clear c2
        by_cases c3 : 0 ≤ x12_1
        · rw [if_pos c3] at H
          have c3b0 : decide (0 ≤ x12_1) = true := decide_eq_true c3
          clear c3
          by_cases c4 : x12_1 < (l0.length : Int)
          · rw [if_pos c4] at H
            have c4b0 : decide (x12_1 < (l0.length : Int)) = true := decide_eq_true c4
            clear c4
            have H' := Aside0.mk H
            clear H
            have p120 : 0 ≤ (x12_1 : Int) := of_decide_eq_true (by first | (with_reducible assumption) | assumption)
            have q120 : x12_1 < (l0.length : Int) := of_decide_eq_true (by first | (with_reducible assumption) | assumption)
            obtain ⟨ad120, A120_0, c120_0, e120, hx120_0, hl120_0, hi120_0⟩ := at_L1 HR0.out x12_1 p120 q120
            cases e120
            have HR120_0 := Aside0.mk hi120_0
            have HC120_0 := Aside0.mk hl120_0
            clear hi120_0 hl120_0
            replace p120 := eq_true p120
            replace q120 := eq_true q120
            go_wp2
            go_roundg k1
            case measure => have := HK1.out; omega
            case rel => exact ⟨(wrap64 (x3_1 - ((rd_L1 l0 x12_1).length : Int))), (wrap64 (x12_1 + 1)), (by first | rfl | (simp; done) | (simp [*]; done)), (by first | rfl | (simp; done) | (simp [*]; done)), H', ⟨by have := HK1.out; omega⟩, by repeat (first | exact Drawn0.refl _ | apply Drawn0.step)⟩
          · rw [if_neg c4] at H
            exact absurd H (by simp)
        · rw [if_neg c3] at H
          exact absurd H (by simp)
      · rw [if_neg c2] at H
        have c2b0 : decide (x12_1 < (l0.length : Int)) = false := decide_eq_false c2
        clear c2
        obtain rfl := Option.some.inj H
        go_wp2
        go_ret
        exact ⟨by first | rfl | (simp; done) | (simp [*]; done), by repeat (first | exact Drawn0.refl _ | apply Drawn0.step)⟩

/-! ### codec_Sum: function 39 -/
mutual
def codec_Sum.l0 : Nat → Int → List Int → Int → Int → Option (Int)
  | 0, _, _, _, _ => none
  | k + 1, x3, x6, x7, x8 => if x8 < x7 then (if 0 ≤ x8 then (if x8 < (x6.length : Int) then (codec_Sum.l1 k (Go.bits .xor .u64 x3 (IntKind.u64.wrap ((IntKind.u64.wrap (rd x6 x8)) * 72057594037927936))) x6 x7 x8 0) else (none)) else (none)) else (some x3)
def codec_Sum.l1 : Nat → Int → List Int → Int → Int → Int → Option (Int)
  | 0, _, _, _, _, _ => none
  | k + 1, x3, x6, x7, x8, x17 => if x17 < 8 then (codec_Sum.l1 k (Go.bits .xor .u64 (IntKind.u64.wrap (x3 * 2)) (Go.bits .and .u64 4823603603198064275 (IntKind.u64.wrap (-(x3 / 9223372036854775808))))) x6 x7 x8 (wrap64 (x17 + 1))) else (codec_Sum.l0 k x3 x6 x7 (wrap64 (x8 + 1)))
end
def codec_Sum.f (k : Nat) (l0 : List Int) : Option (Int) := codec_Sum.l0 k 0 l0 (l0.length : Int) 0
theorem codec_Sum.mono_l : ∀ k, (∀ y0 y1 y2 y3, LeO (codec_Sum.l0 k y0 y1 y2 y3) (codec_Sum.l0 (k + 1) y0 y1 y2 y3)) ∧ (∀ y0 y1 y2 y3 y4, LeO (codec_Sum.l1 k y0 y1 y2 y3 y4) (codec_Sum.l1 (k + 1) y0 y1 y2 y3 y4))
  | 0 => ⟨fun _ _ _ _ r h => by simp [codec_Sum.l0] at h, fun _ _ _ _ _ r h => by simp [codec_Sum.l1] at h⟩
  | k + 1 => by
    obtain ⟨ih0, ih1⟩ := codec_Sum.mono_l k
    refine ⟨?_, ?_⟩
    · intro y0 y1 y2 y3
      unfold codec_Sum.l0
      repeat' first
      | (with_reducible exact ih0 _ _ _ _)
      | (with_reducible exact ih1 _ _ _ _ _)
      | (with_reducible exact LeO.refl _)
      | (with_reducible exact LeO.none _)
      | (with_reducible refine LeO.ite ?_ ?_)
      | (with_reducible refine LeO.bind ?_ (fun _ => ?_))
      | exact ih0 _ _ _ _
      | exact ih1 _ _ _ _ _
      | exact LeO.none _
      | refine LeO.ite ?_ ?_
      | refine LeO.bind ?_ (fun _ => ?_)
    · intro y0 y1 y2 y3 y4
      unfold codec_Sum.l1
      repeat' first
      | (with_reducible exact ih0 _ _ _ _)
      | (with_reducible exact ih1 _ _ _ _ _)
      | (with_reducible exact LeO.refl _)
      | (with_reducible exact LeO.none _)
      | (with_reducible refine LeO.ite ?_ ?_)
      | (with_reducible refine LeO.bind ?_ (fun _ => ?_))
      | exact ih0 _ _ _ _
      | exact ih1 _ _ _ _ _
      | exact LeO.none _
      | refine LeO.ite ?_ ?_
      | refine LeO.bind ?_ (fun _ => ?_)
theorem codec_Sum.mono : ∀ a0 k, LeO (codec_Sum.f k a0) (codec_Sum.f (k + 1) a0) := by
  intro a0 k
  obtain ⟨ih0, ih1⟩ := codec_Sum.mono_l k
  unfold codec_Sum.f
  repeat' first
      | (with_reducible exact ih0 _ _ _ _)
      | (with_reducible exact ih1 _ _ _ _ _)
      | (with_reducible exact LeO.refl _)
      | (with_reducible exact LeO.none _)
      | (with_reducible refine LeO.ite ?_ ?_)
      | (with_reducible refine LeO.bind ?_ (fun _ => ?_))
      | exact ih0 _ _ _ _
      | exact ih1 _ _ _ _ _
      | exact LeO.none _
      | refine LeO.ite ?_ ?_
      | refine LeO.bind ?_ (fun _ => ?_)
set_option maxHeartbeats 8000000 in
set_option maxRecDepth 100000 in
theorem codec_Sum.calls (k : Nat) (A0 : Option Addr) (c0 : Nat) (l0 : List Int) (r : Int) (w : World) (hr0 : Kd.C (Kd.int .u8) w A0 l0.length l0) (hc0 : l0.length ≤ c0) (h : codec_Sum.f k l0 = some r) :
    Calls Try.prog 39 #[.slice A0 l0.length c0] w fun e w' => e = .returned (.int .u64 r) ∧ Drawn0 w w' := by
  have HR0 := Aside0.mk hr0
  have HC0 := Aside0.mk hc0
  clear hr0 hc0
  have H : (codec_Sum.l0 k 0 l0 (l0.length : Int) 0) = some r := h
  clear h
  have H' := Aside0.mk H
  clear H
  go_enter Try.func39, Try.ntmps39
  go_wp2
  go_loopg [3, 8] k (fun kq v3 v8 w' => ∃ (x3_1 : Int) (x8_1 : Int), v3 = .int .u64 x3_1 ∧ v8 = .int .i64 x8_1 ∧ Aside0 (codec_Sum.l0 kq x3_1 l0 (l0.length : Int) x8_1 = some r) ∧ Aside0 (kq ≤ k) ∧ Drawn0 w w')
  case atStart => exact ⟨(0), (0), (by first | rfl | (simp; done) | (simp [*]; done)), (by first | rfl | (simp; done) | (simp [*]; done)), H', ⟨Nat.le_refl _⟩, by repeat (first | exact Drawn0.refl _ | apply Drawn0.step)⟩
  case round =>
    clear H'
    obtain ⟨x3_1, x8_1, rfl, rfl, HA, HK1, ⟨m1, rfl⟩⟩ := hrel
    cases gk with
    | zero => exact absurd HA.out (by simp [codec_Sum.l0])
    | succ k1 =>
      have H := HA.out
      clear HA
      simp only [codec_Sum.l0] at H
      by_cases c2 : x8_1 < (l0.length : Int)
      · rw [if_pos c2] at H
        have c2b0 : decide (x8_1 < (l0.length : Int)) = true := decide_eq_true c2
        clear c2
        by_cases c3 : 0 ≤ x8_1
        · rw [if_pos c3] at H
          have c3b0 : decide (0 ≤ x8_1) = true := decide_eq_true c3
          clear c3
          by_cases c4 : x8_1 < (l0.length : Int)
          · rw [if_pos c4] at H
            have c4b0 : decide (x8_1 < (l0.length : Int)) = true := decide_eq_true c4
            clear c4
            have H' := Aside0.mk H
            clear H
            have p123 : 0 ≤ (x8_1 : Int) := of_decide_eq_true (by first | (with_reducible assumption) | assumption)
            have q123 : x8_1 < (l0.length : Int) := of_decide_eq_true (by first | (with_reducible assumption) | assumption)
            obtain ⟨ad123, e123, hx123_0⟩ := Kd.at_int HR0.out x8_1 p123 q123
            cases e123
            replace p123 := eq_true p123
            replace q123 := eq_true q123
            go_wp2
            go_loopg [3, 17] k1 (fun kq v3 v17 w' => ∃ (x3_2 : Int) (x17_2 : Int), v3 = .int .u64 x3_2 ∧ v17 = .int .i64 x17_2 ∧ Aside0 (codec_Sum.l1 kq x3_2 l0 (l0.length : Int) x8_1 x17_2 = some r) ∧ Aside0 (kq ≤ k1) ∧ Drawn0 w w')
            case atStart => exact ⟨(Go.bits .xor .u64 x3_1 (IntKind.u64.wrap ((IntKind.u64.wrap (rd l0 x8_1)) * 72057594037927936))), (0), (by first | rfl | (simp; done) | (simp [*]; done)), (by first | rfl | (simp; done) | (simp [*]; done)), H', ⟨Nat.le_refl _⟩, by repeat (first | exact Drawn0.refl _ | apply Drawn0.step)⟩
            case round =>
              clear H'
              try clear p1
              try clear q1
              try clear hx1
              try clear c2
              try clear c2b0
              try clear p2
              try clear c3
              try clear c3b0
              try clear c4
              try clear c4b0
              try clear hx123_0
              try clear p123
              try clear q123
              obtain ⟨x3_2, x17_2, rfl, rfl, HA, HK2, ⟨m2, rfl⟩⟩ := hrel
              cases gk with
              | zero => exact absurd HA.out (by simp [codec_Sum.l1])
              | succ k2 =>
                have H := HA.out
                clear HA
                simp only [codec_Sum.l1] at H
                by_cases c5 : x17_2 < 8
                · rw [if_pos c5] at H
                  have c5b0 : decide (x17_2 < 8) = true := decide_eq_true c5
                  clear c5
                  have H' := Aside0.mk H
                  clear H
                  go_wp2
                  go_roundg k2
                  case measure => have := HK1.out; have := HK2.out; omega
                  case rel => exact ⟨(Go.bits .xor .u64 (IntKind.u64.wrap (x3_2 * 2)) (Go.bits .and .u64 4823603603198064275 (IntKind.u64.wrap (-(x3_2 / 9223372036854775808))))), (wrap64 (x17_2 + 1)), (by first | rfl | (simp; done) | (simp [*]; done)), (by first | rfl | (simp; done) | (simp [*]; done)), H', ⟨by have := HK1.out; have := HK2.out; omega⟩, by repeat (first | exact Drawn0.refl _ | apply Drawn0.step)⟩
                · rw [if_neg c5] at H
                  have c5b0 : decide (x17_2 < 8) = false := decide_eq_false c5
                  clear c5
                  have H' := Aside0.mk H
                  clear H
                  go_wp2
                  go_roundg k2
                  case measure => have := HK1.out; have := HK2.out; omega
                  case rel => exact ⟨(x3_2), (wrap64 (x8_1 + 1)), (by first | rfl | (simp; done) | (simp [*]; done)), (by first | rfl | (simp; done) | (simp [*]; done)), H', ⟨by have := HK1.out; have := HK2.out; omega⟩, by repeat (first | exact Drawn0.refl _ | apply Drawn0.step)⟩
          · rw [if_neg c4] at H
            exact absurd H (by simp)
        · rw [if_neg c3] at H
          exact absurd H (by simp)
      · rw [if_neg c2] at H
        have c2b0 : decide (x8_1 < (l0.length : Int)) = false := decide_eq_false c2
        clear c2
        obtain rfl := Option.some.inj H
        go_wp2
        go_ret
        exact ⟨by first | rfl | (simp; done) | (simp [*]; done), by repeat (first | exact Drawn0.refl _ | apply Drawn0.step)⟩

/-! ### page_number: function 35 -/
def page_number.f (l0 : List Int) : Option (Int) := if 0 < (l0.length : Int) then (if 1 < (l0.length : Int) then (some (Go.bits .or .i64 (wrap64 ((wrap64 (rd l0 0)) * 256)) (wrap64 (rd l0 1)))) else (none)) else (none)
set_option maxHeartbeats 8000000 in
set_option maxRecDepth 100000 in
theorem page_number.calls (A0 : Option Addr) (c0 : Nat) (l0 : List Int) (r : Int) (w : World) (hr0 : Kd.C (Kd.int .u8) w A0 l0.length l0) (hc0 : l0.length ≤ c0) (h : page_number.f l0 = some r) :
    Calls Try.prog 35 #[.slice A0 l0.length c0] w fun e w' => e = .returned (.int .i64 r) ∧ Drawn0 w w' := by
  have HR0 := Aside0.mk hr0
  have HC0 := Aside0.mk hc0
  clear hr0 hc0
  have H : (if 0 < (l0.length : Int) then (if 1 < (l0.length : Int) then (some (Go.bits .or .i64 (wrap64 ((wrap64 (rd l0 0)) * 256)) (wrap64 (rd l0 1)))) else (none)) else (none)) = some r := h
  clear h
  by_cases c2 : 0 < (l0.length : Int)
  · rw [if_pos c2] at H
    have c2b0 : decide (0 < (l0.length : Int)) = true := decide_eq_true c2
    have c2b1 : decide (0 < l0.length) = true := decide_eq_true (by omega)
    clear c2
    by_cases c3 : 1 < (l0.length : Int)
    · rw [if_pos c3] at H
      have c3b0 : decide (1 < (l0.length : Int)) = true := decide_eq_true c3
      have c3b1 : decide (1 < l0.length) = true := decide_eq_true (by omega)
      clear c3
      obtain rfl := Option.some.inj H
      have p125 : 0 ≤ (0 : Int) := (by omega)
      have q125 : 0 < (l0.length : Int) := of_decide_eq_true (by first | (with_reducible assumption) | assumption)
      obtain ⟨ad125, e125, hx125_0⟩ := Kd.at_int HR0.out 0 p125 q125
      cases e125
      have qi125 : (0 < l0.length) = True := eq_true (by omega)
      (try rw [show ((0 : Int)).toNat = 0 from rfl] at hx125_0)
      (try rw [Addr.add_zero'] at hx125_0)
      replace p125 := eq_true p125
      replace q125 := eq_true q125
      have p126 : 0 ≤ (1 : Int) := (by omega)
      have q126 : 1 < (l0.length : Int) := of_decide_eq_true (by first | (with_reducible assumption) | assumption)
      obtain ⟨ad126, e126, hx126_0⟩ := Kd.at_int HR0.out 1 p126 q126
      obtain rfl : ad125 = ad126 := (by injection e126)
      (try simp only [show (1 : Int).toNat = 1 from rfl, Nat.reduceMul, Nat.reduceEqDiff, Go.Addr.add, ↓reduceIte] at hx126_0)
      have qi126 : (1 < l0.length) = True := eq_true (by omega)
      (try rw [show ((1 : Int)).toNat = 1 from rfl] at hx126_0)
      replace p126 := eq_true p126
      replace q126 := eq_true q126
      go_enter Try.func35, Try.ntmps35
      go_wp2
      repeat (go_quiet (fail); try go_wp2)
      go_ret
      exact ⟨by first | rfl | (simp; done) | (simp [*]; done), by repeat (first | exact Drawn0.refl _ | apply Drawn0.step)⟩
    · rw [if_neg c3] at H
      exact absurd H (by simp)
  · rw [if_neg c2] at H
    exact absurd H (by simp)

/-! ### slices_Equal_byte_byte: function 37 -/
def slices_Equal_byte_byte.l0 : Nat → List Int → List Int → Int → Int → Option (Bool)
  | 0, _, _, _, _ => none
  | k + 1, x0, x1, x12, x13 => if x13 < x12 then (if 0 ≤ x13 then (if x13 < (x0.length : Int) then (if x13 < (x1.length : Int) then (if (rd x0 x13) = (rd x1 x13) then (slices_Equal_byte_byte.l0 k x0 x1 x12 (wrap64 (x13 + 1))) else (some false)) else (none)) else (none)) else (none)) else (some true)
def slices_Equal_byte_byte.f (k : Nat) (l0 : List Int) (l1 : List Int) : Option (Bool) := if (l0.length : Int) = (l1.length : Int) then (slices_Equal_byte_byte.l0 k l0 l1 (l0.length : Int) 0) else (some false)
theorem slices_Equal_byte_byte.mono_l : ∀ k, (∀ y0 y1 y2 y3, LeO (slices_Equal_byte_byte.l0 k y0 y1 y2 y3) (slices_Equal_byte_byte.l0 (k + 1) y0 y1 y2 y3))
  | 0 => fun _ _ _ _ r h => by simp [slices_Equal_byte_byte.l0] at h
  | k + 1 => by
    have ih0 := slices_Equal_byte_byte.mono_l k
    · intro y0 y1 y2 y3
      unfold slices_Equal_byte_byte.l0
      repeat' first
      | (with_reducible exact ih0 _ _ _ _)
      | (with_reducible exact LeO.refl _)
      | (with_reducible exact LeO.none _)
      | (with_reducible refine LeO.ite ?_ ?_)
      | (with_reducible refine LeO.bind ?_ (fun _ => ?_))
      | exact ih0 _ _ _ _
      | exact LeO.none _
      | refine LeO.ite ?_ ?_
      | refine LeO.bind ?_ (fun _ => ?_)
theorem slices_Equal_byte_byte.mono : ∀ a0 a1 k, LeO (slices_Equal_byte_byte.f k a0 a1) (slices_Equal_byte_byte.f (k + 1) a0 a1) := by
  intro a0 a1 k
  have ih0 := slices_Equal_byte_byte.mono_l k
  unfold slices_Equal_byte_byte.f
  repeat' first
      | (with_reducible exact ih0 _ _ _ _)
      | (with_reducible exact LeO.refl _)
      | (with_reducible exact LeO.none _)
      | (with_reducible refine LeO.ite ?_ ?_)
      | (with_reducible refine LeO.bind ?_ (fun _ => ?_))
      | exact ih0 _ _ _ _
      | exact LeO.none _
      | refine LeO.ite ?_ ?_
      | refine LeO.bind ?_ (fun _ => ?_)
set_option maxHeartbeats 8000000 in
set_option maxRecDepth 100000 in
theorem slices_Equal_byte_byte.calls (k : Nat) (A0 : Option Addr) (c0 : Nat) (l0 : List Int) (A1 : Option Addr) (c1 : Nat) (l1 : List Int) (r : Bool) (w : World) (hr0 : Kd.C (Kd.int .u8) w A0 l0.length l0) (hc0 : l0.length ≤ c0) (hr1 : Kd.C (Kd.int .u8) w A1 l1.length l1) (hc1 : l1.length ≤ c1) (h : slices_Equal_byte_byte.f k l0 l1 = some r) :
    Calls Try.prog 37 #[.slice A0 l0.length c0, .slice A1 l1.length c1] w fun e w' => e = .returned (.bool r) ∧ Drawn0 w w' := by
  have HR0 := Aside0.mk hr0
  have HC0 := Aside0.mk hc0
  clear hr0 hc0
  have HR1 := Aside0.mk hr1
  have HC1 := Aside0.mk hc1
  clear hr1 hc1
  have H : (if (l0.length : Int) = (l1.length : Int) then (slices_Equal_byte_byte.l0 k l0 l1 (l0.length : Int) 0) else (some false)) = some r := h
  clear h
  by_cases c3 : (l0.length : Int) = (l1.length : Int)
  · rw [if_pos c3] at H
    have c3b0 : ((l0.length : Int) == (l1.length : Int)) = true := beq_iff_eq.mpr c3
    have c3b1 : ((l0.length : Int) != (l1.length : Int)) = false := bne_eq_false_iff_eq.mpr c3
    have c3b2 : (l0.length == l1.length) = true := by first | simpa using c3 | (simp at c3 ⊢; omega)
    clear c3
    have H' := Aside0.mk H
    clear H
    go_enter Try.func37, Try.ntmps37
    go_wp2
    repeat (go_quiet (fail); try go_wp2)
    go_loopg [13] k (fun kq v13 w' => ∃ (x13_1 : Int), v13 = .int .i64 x13_1 ∧ Aside0 (slices_Equal_byte_byte.l0 kq l0 l1 (l0.length : Int) x13_1 = some r) ∧ Aside0 (kq ≤ k) ∧ Drawn0 w w')
    case atStart => exact ⟨(0), (by first | rfl | (simp; done) | (simp [*]; done)), H', ⟨Nat.le_refl _⟩, by repeat (first | exact Drawn0.refl _ | apply Drawn0.step)⟩
    case round =>
      clear H'
      try clear c1
      try clear p2
      try clear c3
      try clear c3b0
      try clear c3b1
      try clear c3b2
      obtain ⟨x13_1, rfl, HA, HK1, ⟨m1, rfl⟩⟩ := hrel
      cases gk with
      | zero => exact absurd HA.out (by simp [slices_Equal_byte_byte.l0])
      | succ k1 =>
        have H := HA.out
        clear HA
        simp only [slices_Equal_byte_byte.l0] at H
        by_cases c4 : x13_1 < (l0.length : Int)
        · rw [if_pos c4] at H
          have c4b0 : decide (x13_1 < (l0.length : Int)) = true := decide_eq_true c4
          clear c4
          by_cases c5 : 0 ≤ x13_1
          · rw [if_pos c5] at H
            have c5b0 : decide (0 ≤ x13_1) = true := decide_eq_true c5
            clear c5
            by_cases c6 : x13_1 < (l0.length : Int)
            · rw [if_pos c6] at H
              have c6b0 : decide (x13_1 < (l0.length : Int)) = true := decide_eq_true c6
              clear c6
              by_cases c7 : x13_1 < (l1.length : Int)
              · rw [if_pos c7] at H
                have c7b0 : decide (x13_1 < (l1.length : Int)) = true := decide_eq_true c7
                clear c7
                by_cases c8 : (rd l0 x13_1) = (rd l1 x13_1)
                · rw [if_pos c8] at H
                  have c8b0 : ((rd l0 x13_1) == (rd l1 x13_1)) = true := beq_iff_eq.mpr c8
                  have c8b1 : ((rd l0 x13_1) != (rd l1 x13_1)) = false := bne_eq_false_iff_eq.mpr c8
                  clear c8
                  have H' := Aside0.mk H
                  clear H
                  have p127 : 0 ≤ (x13_1 : Int) := of_decide_eq_true (by first | (with_reducible assumption) | assumption)
                  have q127 : x13_1 < (l0.length : Int) := of_decide_eq_true (by first | (with_reducible assumption) | assumption)
                  obtain ⟨ad127, e127, hx127_0⟩ := Kd.at_int HR0.out x13_1 p127 q127
                  cases e127
                  replace p127 := eq_true p127
                  replace q127 := eq_true q127
                  have p128 : 0 ≤ (x13_1 : Int) := of_decide_eq_true (by first | (with_reducible assumption) | assumption)
                  have q128 : x13_1 < (l1.length : Int) := of_decide_eq_true (by first | (with_reducible assumption) | assumption)
                  obtain ⟨ad128, e128, hx128_0⟩ := Kd.at_int HR1.out x13_1 p128 q128
                  cases e128
                  replace p128 := eq_true p128
                  replace q128 := eq_true q128
                  go_wp2
                  repeat (go_quiet (fail); try go_wp2)
                  go_roundg k1
                  case measure => have := HK1.out; omega
                  case rel => exact ⟨(wrap64 (x13_1 + 1)), (by first | rfl | (simp; done) | (simp [*]; done)), H', ⟨by have := HK1.out; omega⟩, by repeat (first | exact Drawn0.refl _ | apply Drawn0.step)⟩
                · rw [if_neg c8] at H
                  have c8b0 : ((rd l0 x13_1) == (rd l1 x13_1)) = false := beq_eq_false_iff_ne.mpr c8
                  have c8b1 : ((rd l0 x13_1) != (rd l1 x13_1)) = true := bne_iff_ne.mpr c8
                  obtain rfl := Option.some.inj H
                  have p127 : 0 ≤ (x13_1 : Int) := of_decide_eq_true (by first | (with_reducible assumption) | assumption)
                  have q127 : x13_1 < (l0.length : Int) := of_decide_eq_true (by first | (with_reducible assumption) | assumption)
                  obtain ⟨ad127, e127, hx127_0⟩ := Kd.at_int HR0.out x13_1 p127 q127
                  cases e127
                  replace p127 := eq_true p127
                  replace q127 := eq_true q127
                  have p128 : 0 ≤ (x13_1 : Int) := of_decide_eq_true (by first | (with_reducible assumption) | assumption)
                  have q128 : x13_1 < (l1.length : Int) := of_decide_eq_true (by first | (with_reducible assumption) | assumption)
                  obtain ⟨ad128, e128, hx128_0⟩ := Kd.at_int HR1.out x13_1 p128 q128
                  cases e128
                  replace p128 := eq_true p128
                  replace q128 := eq_true q128
                  go_wp2
                  repeat (go_quiet (fail); try go_wp2)
                  go_ret
                  exact ⟨by first | rfl | (simp; done) | (simp [*]; done), by repeat (first | exact Drawn0.refl _ | apply Drawn0.step)⟩
              · rw [if_neg c7] at H
                exact absurd H (by simp)
            · rw [if_neg c6] at H
              exact absurd H (by simp)
          · rw [if_neg c5] at H
            exact absurd H (by simp)
        · rw [if_neg c4] at H
          have c4b0 : decide (x13_1 < (l0.length : Int)) = false := decide_eq_false c4
          clear c4
          obtain rfl := Option.some.inj H
          go_wp2
          repeat (go_quiet (fail); try go_wp2)
          go_ret
          exact ⟨by first | rfl | (simp; done) | (simp [*]; done), by repeat (first | exact Drawn0.refl _ | apply Drawn0.step)⟩
  · rw [if_neg c3] at H
    have c3b0 : ((l0.length : Int) == (l1.length : Int)) = false := beq_eq_false_iff_ne.mpr c3
    have c3b1 : ((l0.length : Int) != (l1.length : Int)) = true := bne_iff_ne.mpr c3
    have c3b2 : (l0.length == l1.length) = false := by first | simpa using c3 | (simp at c3 ⊢; omega)
    obtain rfl := Option.some.inj H
    go_enter Try.func37, Try.ntmps37
    go_wp2
    repeat (go_quiet (fail); try go_wp2)
    go_ret
    exact ⟨by first | rfl | (simp; done) | (simp [*]; done), by repeat (first | exact Drawn0.refl _ | apply Drawn0.step)⟩

/-! ### longstoplaw12_num: function 25 -/
def longstoplaw12_num.f (a0 : Int) : Option (Int) := some a0
set_option maxHeartbeats 8000000 in
set_option maxRecDepth 100000 in
theorem longstoplaw12_num.calls (a0 : Int) (r : Int) (w : World) (h : longstoplaw12_num.f a0 = some r) :
    Calls Try.prog 25 #[.int .i64 a0] w fun e w' => e = .returned (.int .i64 r) ∧ Drawn0 w w' := by
  have H : (some a0) = some r := h
  clear h
  obtain rfl := Option.some.inj H
  go_enter Try.func25, Try.ntmps25
  go_wp2
  go_ret
  exact ⟨by first | rfl | (simp; done) | (simp [*]; done), by repeat (first | exact Drawn0.refl _ | apply Drawn0.step)⟩

/-! ### longstopref12_room: function 29 -/
def longstopref12_room.l0 : Nat → List (S59) → Int → Int → Option (Int)
  | 0, _, _, _ => none
  | k + 1, x0, x3, x4 => if x4 < (x0.length : Int) then (if 0 ≤ x4 then (longstopref12_room.l0 k x0 (wrap64 (x3 - (((rd_T59 x0 x4).f0).length : Int))) (wrap64 (x4 + 1))) else (none)) else (some x3)
def longstopref12_room.f (k : Nat) (l0 : List (S59)) : Option (Int) := longstopref12_room.l0 k l0 (wrap64 (502 - (wrap64 (4 * (l0.length : Int))))) 0
theorem longstopref12_room.mono_l : ∀ k, (∀ y0 y1 y2, LeO (longstopref12_room.l0 k y0 y1 y2) (longstopref12_room.l0 (k + 1) y0 y1 y2))
  | 0 => fun _ _ _ r h => by simp [longstopref12_room.l0] at h
  | k + 1 => by
    have ih0 := longstopref12_room.mono_l k
    · intro y0 y1 y2
      unfold longstopref12_room.l0
      repeat' first
      | (with_reducible exact ih0 _ _ _)
      | (with_reducible exact LeO.refl _)
      | (with_reducible exact LeO.none _)
      | (with_reducible refine LeO.ite ?_ ?_)
      | (with_reducible refine LeO.bind ?_ (fun _ => ?_))
      | exact ih0 _ _ _
      | exact LeO.none _
      | refine LeO.ite ?_ ?_
      | refine LeO.bind ?_ (fun _ => ?_)
theorem longstopref12_room.mono : ∀ a0 k, LeO (longstopref12_room.f k a0) (longstopref12_room.f (k + 1) a0) := by
  intro a0 k
  have ih0 := longstopref12_room.mono_l k
  unfold longstopref12_room.f
  repeat' first
      | (with_reducible exact ih0 _ _ _)
      | (with_reducible exact LeO.refl _)
      | (with_reducible exact LeO.none _)
      | (with_reducible refine LeO.ite ?_ ?_)
      | (with_reducible refine LeO.bind ?_ (fun _ => ?_))
      | exact ih0 _ _ _
      | exact LeO.none _
      | refine LeO.ite ?_ ?_
      | refine LeO.bind ?_ (fun _ => ?_)
set_option maxHeartbeats 8000000 in
set_option maxRecDepth 100000 in
theorem longstopref12_room.calls (k : Nat) (A0 : Option Addr) (c0 : Nat) (l0 : List (S59)) (r : Int) (w : World) (hr0 : Kd.C k59 w A0 l0.length l0) (hc0 : l0.length ≤ c0) (h : longstopref12_room.f k l0 = some r) :
    Calls Try.prog 29 #[.slice A0 l0.length c0] w fun e w' => e = .returned (.int .i64 r) ∧ Drawn0 w w' := by
  have HR0 := Aside0.mk hr0
  have HC0 := Aside0.mk hc0
  clear hr0 hc0
  have H : (longstopref12_room.l0 k l0 (wrap64 (502 - (wrap64 (4 * (l0.length : Int))))) 0) = some r := h
  clear h
  have H' := Aside0.mk H
  clear H
  go_enter Try.func29, Try.ntmps29
  go_wp2
  go_loopg [3, 4] k (fun kq v3 v4 w' => ∃ (x3_1 : Int) (x4_1 : Int), v3 = .int .i64 x3_1 ∧ v4 = .int .i64 x4_1 ∧ Aside0 (longstopref12_room.l0 kq l0 x3_1 x4_1 = some r) ∧ Aside0 (kq ≤ k) ∧ Drawn0 w w')
  case atStart => exact ⟨(wrap64 (502 - (wrap64 (4 * (l0.length : Int))))), (0), (by first | rfl | (simp; done) | (simp [*]; done)), (by first | rfl | (simp; done) | (simp [*]; done)), H', ⟨Nat.le_refl _⟩, by repeat (first | exact Drawn0.refl _ | apply Drawn0.step)⟩
  case round =>
    clear H'
    obtain ⟨x3_1, x4_1, rfl, rfl, HA, HK1, ⟨m1, rfl⟩⟩ := hrel
    cases gk with
    | zero => exact absurd HA.out (by simp [longstopref12_room.l0])
    | succ k1 =>
      have H := HA.out
      clear HA
      simp only [longstopref12_room.l0] at H
      by_cases c2 : x4_1 < (l0.length : Int)
      · rw [if_pos c2] at H
        have c2b0 : decide (x4_1 < (l0.length : Int)) = true := decide_eq_true c2
        clear c2
        by_cases c3 : 0 ≤ x4_1
        · rw [if_pos c3] at H
          have c3b0 : decide (0 ≤ x4_1) = true := decide_eq_true c3
          clear c3
          have H' := Aside0.mk H
          clear H
          have p132 : 0 ≤ (x4_1 : Int) := of_decide_eq_true (by first | (with_reducible assumption) | assumption)
          have q132 : x4_1 < (l0.length : Int) := of_decide_eq_true (by first | (with_reducible assumption) | assumption)
          obtain ⟨ad132, A132_0, c132_0, e132, hx132_0, hx132_1, hl132_0, hi132_0⟩ := at_T59 HR0.out x4_1 p132 q132
          cases e132
          have HR132_0 := Aside0.mk hi132_0
          have HC132_0 := Aside0.mk hl132_0
          clear hi132_0 hl132_0
          replace p132 := eq_true p132
          replace q132 := eq_true q132
          go_wp2
          go_roundg k1
          case measure => have := HK1.out; omega
          case rel => exact ⟨(wrap64 (x3_1 - (((rd_T59 l0 x4_1).f0).length : Int))), (wrap64 (x4_1 + 1)), (by first | rfl | (simp; done) | (simp [*]; done)), (by first | rfl | (simp; done) | (simp [*]; done)), H', ⟨by have := HK1.out; omega⟩, by repeat (first | exact Drawn0.refl _ | apply Drawn0.step)⟩
        · rw [if_neg c3] at H
          exact absurd H (by simp)
      · rw [if_neg c2] at H
        have c2b0 : decide (x4_1 < (l0.length : Int)) = false := decide_eq_false c2
        clear c2
        obtain rfl := Option.some.inj H
        go_wp2
        go_ret
        exact ⟨by first | rfl | (simp; done) | (simp [*]; done), by repeat (first | exact Drawn0.refl _ | apply Drawn0.step)⟩

/-! ### longstopref12_two: function 40 -/
def longstopref12_two.f (a0 : Int) : Option (List Int) := some (([(wrap64 (Int.tdiv a0 256)) % 256, (Int.tmod a0 256) % 256] : List Int))
set_option maxHeartbeats 8000000 in
set_option maxRecDepth 100000 in
theorem longstopref12_two.calls (a0 : Int) (r : List Int) (w : World) (h : longstopref12_two.f a0 = some r) :
    Calls Try.prog 40 #[.int .i64 a0] w fun e w' => ∃ v0_ : Value, e = .returned (v0_) ∧ Kd.R (Kd.int .u8) 5 w' w.heap.size (fun _ => True) v0_ r ∧ Below w.heap.size w w' := by
  have HB := Aside0.mk (Below.refl w.heap.size w)
  have H : (some (([(wrap64 (Int.tdiv a0 256)) % 256, (Int.tmod a0 256) % 256] : List Int))) = some r := h
  clear h
  obtain ⟨y133, hy133⟩ : ∃ y_ : List Int, y_ = (([(wrap64 (Int.tdiv a0 256)) % 256, (Int.tmod a0 256) % 256] : List Int)) := ⟨_, rfl⟩
  replace H : (some y133) = some r := by first | (rw [hy133]; with_reducible exact H) | (have H2_ := (Option.bind_some _ _).symm.trans H; rw [hy133]; with_reducible exact H2_) | (have H2_ := (Option.bind_some _ _).symm.trans H; with_reducible exact H2_) | with_reducible exact H | (rw [hy133]; exact H) | exact H
  have Ny133 := Aside0.mk hy133
  clear hy133
  obtain rfl := Option.some.inj H
  go_enter Try.func40, Try.ntmps40
  go_wp2_with (first | ((with_reducible refine gate_dst (N := 9) rfl ?_); refine Kd.R_lit (Kd.int .u8) _ 5 ?hg (N := 9) ?hd (xs := ([(wrap64 (Int.tdiv a0 256)) % 256, (Int.tmod a0 256) % 256] : List Int)) (inner := [.int .u8 ((wrap64 (Int.tdiv a0 256)) % 256), .int .u8 ((Int.tmod a0 256) % 256)]) (ok := fun _ => True) (okp := fun _ => True) ?hr ?hp (fun _ hk => hk) trivial (Below.refl _ _) (Nat.le_refl _) (by simp) ?_; (case hd => rfl); (case hg => rfl); (case hr => first | (go_simp; done) | (go_simp; rfl)); (case hp => exact (Reps.one (show Kd.M (Kd.int .u8) _ _ _ ((wrap64 (Int.tdiv a0 256)) % 256) [.int .u8 ((wrap64 (Int.tdiv a0 256)) % 256)] from rfl) (Reps.one (show Kd.M (Kd.int .u8) _ _ _ ((Int.tmod a0 256) % 256) [.int .u8 ((Int.tmod a0 256) % 256)] from rfl) (Reps.none _ _)))); intro v134 w2 ho3 hb hg_ hnew_; clear hg_ hnew_; (first | rw [← Ny133.out] at ho3 | (simp only [Int.reduceToNat] at ho3; rw [← Ny133.out] at ho3)); have n0_ := Aside0.mk (Kd.R_lower ho3 (below_size (by repeat (first | (with_reducible first | exact HB.out | apply below_alloc | apply pw_below_drewN | apply below_drew1) | exact HB.out)))); have n1_ := Aside0.mk (below_step (by repeat (first | (with_reducible first | exact HB.out | apply below_alloc | apply pw_below_drewN | apply below_drew1) | exact HB.out)) hb); clear HB; have HO135 := n0_; have HB := n1_; clear n0_ n1_; clear hb ho3))
  go_ret
  exact ⟨_, by first | rfl | (simp [errW_none, errW_some] <;> rfl) | (simp [*, errW_none, errW_some] <;> rfl), by (with_reducible repeat (first | apply Kd.R_alloc | apply Kd.R_drewN | apply Kd.R_drew)); exact HO135.out, by repeat (first | (with_reducible first | exact HB.out | apply below_alloc | apply pw_below_drewN | apply below_drew1) | exact HB.out)⟩

/-! ### longstopref01_Sum: function 41 -/
mutual
def longstopref01_Sum.l0 : Nat → List Int → Int → Int → Option (Int)
  | 0, _, _, _ => none
  | k + 1, x0, x3, x4 => if x4 < (x0.length : Int) then (longstopref01_Sum.l1 k x0 x3 x4 7) else (some x3)
def longstopref01_Sum.l1 : Nat → List Int → Int → Int → Int → Option (Int)
  | 0, _, _, _, _ => none
  | k + 1, x0, x3, x4, x5 => if x5 ≥ 0 then (if 0 ≤ x4 then (if x4 < (x0.length : Int) then (if 0 ≤ (IntKind.u64.wrap (x5)) then (if (Go.bits .xor .u64 (x3 / 9223372036854775808) (Go.bits .and .u64 (shr .u64 (IntKind.u64.wrap (rd x0 x4)) (IntKind.u64.wrap (x5))) 1)) = 1 then (longstopref01_Sum.l1 k x0 (Go.bits .xor .u64 (IntKind.u64.wrap (x3 * 2)) 4823603603198064275) x4 (wrap64 (x5 - 1))) else (longstopref01_Sum.l1 k x0 (IntKind.u64.wrap (x3 * 2)) x4 (wrap64 (x5 - 1)))) else (none)) else (none)) else (none)) else (longstopref01_Sum.l0 k x0 x3 (wrap64 (x4 + 1)))
end
def longstopref01_Sum.f (k : Nat) (l0 : List Int) : Option (Int) := longstopref01_Sum.l0 k l0 0 0
theorem longstopref01_Sum.mono_l : ∀ k, (∀ y0 y1 y2, LeO (longstopref01_Sum.l0 k y0 y1 y2) (longstopref01_Sum.l0 (k + 1) y0 y1 y2)) ∧ (∀ y0 y1 y2 y3, LeO (longstopref01_Sum.l1 k y0 y1 y2 y3) (longstopref01_Sum.l1 (k + 1) y0 y1 y2 y3))
  | 0 => ⟨fun _ _ _ r h => by simp [longstopref01_Sum.l0] at h, fun _ _ _ _ r h => by simp [longstopref01_Sum.l1] at h⟩
  | k + 1 => by
    obtain ⟨ih0, ih1⟩ := longstopref01_Sum.mono_l k
    refine ⟨?_, ?_⟩
    · intro y0 y1 y2
      unfold longstopref01_Sum.l0
      repeat' first
      | (with_reducible exact ih0 _ _ _)
      | (with_reducible exact ih1 _ _ _ _)
      | (with_reducible exact LeO.refl _)
      | (with_reducible exact LeO.none _)
      | (with_reducible refine LeO.ite ?_ ?_)
      | (with_reducible refine LeO.bind ?_ (fun _ => ?_))
      | exact ih0 _ _ _
      | exact ih1 _ _ _ _
      | exact LeO.none _
      | refine LeO.ite ?_ ?_
      | refine LeO.bind ?_ (fun _ => ?_)
    · intro y0 y1 y2 y3
      unfold longstopref01_Sum.l1
      repeat' first
      | (with_reducible exact ih0 _ _ _)
      | (with_reducible exact ih1 _ _ _ _)
      | (with_reducible exact LeO.refl _)
      | (with_reducible exact LeO.none _)
      | (with_reducible refine LeO.ite ?_ ?_)
      | (with_reducible refine LeO.bind ?_ (fun _ => ?_))
      | exact ih0 _ _ _
      | exact ih1 _ _ _ _
      | exact LeO.none _
      | refine LeO.ite ?_ ?_
      | refine LeO.bind ?_ (fun _ => ?_)
theorem longstopref01_Sum.mono : ∀ a0 k, LeO (longstopref01_Sum.f k a0) (longstopref01_Sum.f (k + 1) a0) := by
  intro a0 k
  obtain ⟨ih0, ih1⟩ := longstopref01_Sum.mono_l k
  unfold longstopref01_Sum.f
  repeat' first
      | (with_reducible exact ih0 _ _ _)
      | (with_reducible exact ih1 _ _ _ _)
      | (with_reducible exact LeO.refl _)
      | (with_reducible exact LeO.none _)
      | (with_reducible refine LeO.ite ?_ ?_)
      | (with_reducible refine LeO.bind ?_ (fun _ => ?_))
      | exact ih0 _ _ _
      | exact ih1 _ _ _ _
      | exact LeO.none _
      | refine LeO.ite ?_ ?_
      | refine LeO.bind ?_ (fun _ => ?_)
set_option maxHeartbeats 8000000 in
set_option maxRecDepth 100000 in
theorem longstopref01_Sum.calls (k : Nat) (A0 : Option Addr) (c0 : Nat) (l0 : List Int) (r : Int) (w : World) (hr0 : Kd.C (Kd.int .u8) w A0 l0.length l0) (hc0 : l0.length ≤ c0) (h : longstopref01_Sum.f k l0 = some r) :
    Calls Try.prog 41 #[.slice A0 l0.length c0] w fun e w' => e = .returned (.int .u64 r) ∧ Drawn0 w w' := by
  have HR0 := Aside0.mk hr0
  have HC0 := Aside0.mk hc0
  clear hr0 hc0
  have H : (longstopref01_Sum.l0 k l0 0 0) = some r := h
  clear h
  have H' := Aside0.mk H
  clear H
  go_enter Try.func41, Try.ntmps41
  go_wp2
  go_loopg [3, 4] k (fun kq v3 v4 w' => ∃ (x3_1 : Int) (x4_1 : Int), v3 = .int .u64 x3_1 ∧ v4 = .int .i64 x4_1 ∧ Aside0 (longstopref01_Sum.l0 kq l0 x3_1 x4_1 = some r) ∧ Aside0 (kq ≤ k) ∧ Drawn0 w w')
  case atStart => exact ⟨(0), (0), (by first | rfl | (simp; done) | (simp [*]; done)), (by first | rfl | (simp; done) | (simp [*]; done)), H', ⟨Nat.le_refl _⟩, by repeat (first | exact Drawn0.refl _ | apply Drawn0.step)⟩
  case round =>
    clear H'
    obtain ⟨x3_1, x4_1, rfl, rfl, HA, HK1, ⟨m1, rfl⟩⟩ := hrel
    cases gk with
    | zero => exact absurd HA.out (by simp [longstopref01_Sum.l0])
    | succ k1 =>
      have H := HA.out
      clear HA
      simp only [longstopref01_Sum.l0] at H
      by_cases c2 : x4_1 < (l0.length : Int)
      · rw [if_pos c2] at H
        have c2b0 : decide (x4_1 < (l0.length : Int)) = true := decide_eq_true c2
        clear c2
        have H' := Aside0.mk H
        clear H
        go_wp2
        go_loopg [3, 5] k1 (fun kq v3 v5 w' => ∃ (x3_2 : Int) (x5_2 : Int), v3 = .int .u64 x3_2 ∧ v5 = .int .i64 x5_2 ∧ Aside0 (longstopref01_Sum.l1 kq l0 x3_2 x4_1 x5_2 = some r) ∧ Aside0 (kq ≤ k1) ∧ Drawn0 w w')
        case atStart => exact ⟨(x3_1), (7), (by first | rfl | (simp; done) | (simp [*]; done)), (by first | rfl | (simp; done) | (simp [*]; done)), H', ⟨Nat.le_refl _⟩, by repeat (first | exact Drawn0.refl _ | apply Drawn0.step)⟩
        case round =>
          clear H'
          try clear c2
          try clear c2b0
          try clear p2
          obtain ⟨x3_2, x5_2, rfl, rfl, HA, HK2, ⟨m2, rfl⟩⟩ := hrel
          cases gk with
          | zero => exact absurd HA.out (by simp [longstopref01_Sum.l1])
          | succ k2 =>
            have H := HA.out
            clear HA
            simp only [longstopref01_Sum.l1] at H
            by_cases c3 : x5_2 ≥ 0
            · rw [if_pos c3] at H
              have c3b0 : decide (0 ≤ x5_2) = true := decide_eq_true c3
              clear c3
              by_cases c4 : 0 ≤ x4_1
              · rw [if_pos c4] at H
                have c4b0 : decide (0 ≤ x4_1) = true := decide_eq_true c4
                clear c4
                by_cases c5 : x4_1 < (l0.length : Int)
                · rw [if_pos c5] at H
                  have c5b0 : decide (x4_1 < (l0.length : Int)) = true := decide_eq_true c5
                  clear c5
                  obtain ⟨ji6, hji6⟩ : ∃ j_ : Int, (IntKind.u64.wrap (x5_2)) = j_ := ⟨_, rfl⟩
                  replace H : (if 0 ≤ (ji6) then (if (Go.bits .xor .u64 (x3_2 / 9223372036854775808) (Go.bits .and .u64 (shr .u64 (IntKind.u64.wrap (rd l0 x4_1)) (ji6)) 1)) = 1 then (longstopref01_Sum.l1 k2 l0 (Go.bits .xor .u64 (IntKind.u64.wrap (x3_2 * 2)) 4823603603198064275) x4_1 (wrap64 (x5_2 - 1))) else (longstopref01_Sum.l1 k2 l0 (IntKind.u64.wrap (x3_2 * 2)) x4_1 (wrap64 (x5_2 - 1)))) else (none)) = some r := by first | (rw [hji6] at H; exact H) | (simp only [hji6] at H ⊢; exact H)
                  by_cases c7 : 0 ≤ (ji6)
                  · rw [if_pos c7] at H
                    have c7b0 := eq_true c7
                    have c7b1 : decide (0 ≤ (ji6)) = true := decide_eq_true c7
                    clear c7
                    obtain ⟨ji8, hji8⟩ : ∃ j_ : Int, (shr .u64 (IntKind.u64.wrap (rd l0 x4_1)) (ji6)) = j_ := ⟨_, rfl⟩
                    replace H : (if (Go.bits .xor .u64 (x3_2 / 9223372036854775808) (Go.bits .and .u64 (ji8) 1)) = 1 then (longstopref01_Sum.l1 k2 l0 (Go.bits .xor .u64 (IntKind.u64.wrap (x3_2 * 2)) 4823603603198064275) x4_1 (wrap64 (x5_2 - 1))) else (longstopref01_Sum.l1 k2 l0 (IntKind.u64.wrap (x3_2 * 2)) x4_1 (wrap64 (x5_2 - 1)))) = some r := by first | (rw [hji8] at H; exact H) | (simp only [hji8] at H ⊢; exact H)
                    have hji8_ : ((IntKind.u64.wrap (rd l0 x4_1)) / 2 ^ min (ji6).toNat 64) = ji8 := hji8
                    have hji8z : (ji6) ≤ 64 → ((IntKind.u64.wrap (rd l0 x4_1)) / 2 ^ (ji6).toNat) = ji8 := shr_small hji8
                    by_cases c9 : (Go.bits .xor .u64 (x3_2 / 9223372036854775808) (Go.bits .and .u64 (ji8) 1)) = 1
                    · rw [if_pos c9] at H
                      have c9b0 : ((Go.bits .xor .u64 (x3_2 / 9223372036854775808) (Go.bits .and .u64 (ji8) 1)) == 1) = true := beq_iff_eq.mpr c9
                      have c9b1 : ((Go.bits .xor .u64 (x3_2 / 9223372036854775808) (Go.bits .and .u64 (ji8) 1)) != 1) = false := bne_eq_false_iff_eq.mpr c9
                      clear c9
                      have H' := Aside0.mk H
                      clear H
                      have p136 : 0 ≤ (x4_1 : Int) := of_decide_eq_true (by first | (with_reducible assumption) | assumption)
                      have q136 : x4_1 < (l0.length : Int) := of_decide_eq_true (by first | (with_reducible assumption) | assumption)
                      obtain ⟨ad136, e136, hx136_0⟩ := Kd.at_int HR0.out x4_1 p136 q136
                      cases e136
                      replace p136 := eq_true p136
                      replace q136 := eq_true q136
                      go_wp2
                      go_roundg k2
                      case measure => have := HK1.out; have := HK2.out; omega
                      case rel => exact ⟨(Go.bits .xor .u64 (IntKind.u64.wrap (x3_2 * 2)) 4823603603198064275), (wrap64 (x5_2 - 1)), (by first | rfl | (simp; done) | (simp [*]; done)), (by first | rfl | (simp; done) | (simp [*]; done)), H', ⟨by have := HK1.out; have := HK2.out; omega⟩, by repeat (first | exact Drawn0.refl _ | apply Drawn0.step)⟩
                    · rw [if_neg c9] at H
                      have c9b0 : ((Go.bits .xor .u64 (x3_2 / 9223372036854775808) (Go.bits .and .u64 (ji8) 1)) == 1) = false := beq_eq_false_iff_ne.mpr c9
                      have c9b1 : ((Go.bits .xor .u64 (x3_2 / 9223372036854775808) (Go.bits .and .u64 (ji8) 1)) != 1) = true := bne_iff_ne.mpr c9
                      have H' := Aside0.mk H
                      clear H
                      have p136 : 0 ≤ (x4_1 : Int) := of_decide_eq_true (by first | (with_reducible assumption) | assumption)
                      have q136 : x4_1 < (l0.length : Int) := of_decide_eq_true (by first | (with_reducible assumption) | assumption)
                      obtain ⟨ad136, e136, hx136_0⟩ := Kd.at_int HR0.out x4_1 p136 q136
                      cases e136
                      replace p136 := eq_true p136
                      replace q136 := eq_true q136
                      go_wp2
                      go_roundg k2
                      case measure => have := HK1.out; have := HK2.out; omega
                      case rel => exact ⟨(IntKind.u64.wrap (x3_2 * 2)), (wrap64 (x5_2 - 1)), (by first | rfl | (simp; done) | (simp [*]; done)), (by first | rfl | (simp; done) | (simp [*]; done)), H', ⟨by have := HK1.out; have := HK2.out; omega⟩, by repeat (first | exact Drawn0.refl _ | apply Drawn0.step)⟩
                  · rw [if_neg c7] at H
                    exact absurd H (by simp)
                · rw [if_neg c5] at H
                  exact absurd H (by simp)
              · rw [if_neg c4] at H
                exact absurd H (by simp)
            · rw [if_neg c3] at H
              have c3b0 : decide (0 ≤ x5_2) = false := decide_eq_false c3
              clear c3
              have H' := Aside0.mk H
              clear H
              go_wp2
              go_roundg k2
              case measure => have := HK1.out; have := HK2.out; omega
              case rel => exact ⟨(x3_2), (wrap64 (x4_1 + 1)), (by first | rfl | (simp; done) | (simp [*]; done)), (by first | rfl | (simp; done) | (simp [*]; done)), H', ⟨by have := HK1.out; have := HK2.out; omega⟩, by repeat (first | exact Drawn0.refl _ | apply Drawn0.step)⟩
      · rw [if_neg c2] at H
        have c2b0 : decide (x4_1 < (l0.length : Int)) = false := decide_eq_false c2
        clear c2
        obtain rfl := Option.some.inj H
        go_wp2
        go_ret
        exact ⟨by first | rfl | (simp; done) | (simp [*]; done), by repeat (first | exact Drawn0.refl _ | apply Drawn0.step)⟩

end Go.Proofs.Ytbffeibcndbmgaa.PPageSteps

/-! ## Sums -/
set_option linter.unusedVariables false
set_option linter.unusedSimpArgs false
namespace Go.Proofs.Ytbffeibcndbmgaa.Pg
open Go.RowKit Go.Proofs.YtbffeibcndbmgaaW.PrintWords Go.Proofs.YtbffeibcndbmgaaW.PrintLast Go.Proofs.YtbffeibcndbmgaaW.PrintMore Go.Proofs.Ytbffeibcndbmgaa.PPageSteps
open Crc (st sr iter byte)

/-- bytes: whole numbers from 0 to 255. -/
def Bytes (l : List Int) : Prop := ∀ x ∈ l, 0 ≤ x ∧ x < 256
def bytesB (l : List Int) : Bool := l.all fun x => decide (0 ≤ x ∧ x < 256)
theorem bytesB_iff {l : List Int} : bytesB l = true ↔ Bytes l := by simp [bytesB, Bytes]
theorem Bytes.nat {l : List Int} (h : Bytes l) {i : Nat} (hi : i < l.length) : ∃ b : Nat, l.getD i 0 = b ∧ b < 256 := by
  have h1 := h (l[i]) (List.getElem_mem hi)
  refine ⟨(l[i]).toNat, ?_, by omega⟩
  rw [List.getD_eq_getElem?_getD, List.getElem?_eq_getElem hi]
  simp
  omega

def crcFrom (c : BitVec 64) (l : List Int) : BitVec 64 := l.foldl (fun c b => byte c (BitVec.ofNat 64 b.toNat)) c
/-- the sum of bytes. -/
def crc (l : List Int) : Int := ((crcFrom 0#64 l).toNat : Int)

theorem wrap_up {i : Int} (h0 : -1 ≤ i) (h : i < 9223372036854775807) : wrap64 (i + 1) = i + 1 := by unfold wrap64; omega
theorem wrap_down {i : Int} (h0 : 0 ≤ i) (h : i < 9223372036854775807) : wrap64 (i - 1) = i - 1 := by unfold wrap64; omega

/-! ### the program's -/
theorem sumP_bits (x6 : List Int) (x7 x8 : Int) (k : Nat) : ∀ (d : Nat) (X : BitVec 64) (j : Int), d ≤ 8 → j = 8 - d →
    codec_Sum.l1 (k + d + 1) (X.toNat : Int) x6 x7 x8 j = codec_Sum.l0 k ((iter d X).toNat : Int) x6 x7 (wrap64 (x8 + 1))
  | 0, X, j, _, hj => by
    simp only [Nat.add_zero, codec_Sum.l1]
    rw [if_neg (by omega)]
    rfl
  | d + 1, X, j, hd, hj => by
    rw [show k + (d + 1) + 1 = (k + d + 1) + 1 from by omega]
    rw [codec_Sum.l1]
    rw [if_pos (by omega), Crc.prog_step, wrap_up (by omega) (by omega)]
    rw [sumP_bits x6 x7 x8 k d (st X) (j + 1) (by omega) (by omega)]
    rfl

theorem sumP_byte (x6 : List Int) (hb : Bytes x6) (hl : x6.length ≤ 9223372036854775806) (k i : Nat) (X : BitVec 64) (hi : i < x6.length) :
    codec_Sum.l0 (k + 10) (X.toNat : Int) x6 (x6.length : Int) (i : Int) = codec_Sum.l0 k ((byte X (BitVec.ofNat 64 (x6.getD i 0).toNat)).toNat : Int) x6 (x6.length : Int) ((i + 1 : Nat) : Int) := by
  obtain ⟨b, hb1, hb2⟩ := hb.nat hi
  rw [show k + 10 = (k + 8 + 1) + 1 from by omega, codec_Sum.l0]
  rw [if_pos (by omega), if_pos (by omega), if_pos (by omega)]
  have e : rd x6 (i : Int) = (b : Int) := by unfold rd; rw [Int.toNat_natCast]; exact hb1
  rw [e, Crc.prog_in X b hb2, sumP_bits x6 _ _ k 8 _ 0 (by omega) (by omega), wrap_up (by omega) (by omega)]
  rw [hb1, Int.toNat_natCast]
  rfl

theorem drop_getD (l : List Int) (i : Nat) (hi : i < l.length) : l.drop i = l.getD i 0 :: l.drop (i + 1) := by
  rw [List.drop_eq_getElem_cons hi, List.getD_eq_getElem?_getD, List.getElem?_eq_getElem hi]
  rfl

theorem sumP_from (x6 : List Int) (hb : Bytes x6) (hl : x6.length ≤ 9223372036854775806) : ∀ (n i : Nat) (X : BitVec 64), i + n = x6.length →
    codec_Sum.l0 (1 + 10 * n) (X.toNat : Int) x6 (x6.length : Int) (i : Int) = some ((crcFrom X (x6.drop i)).toNat : Int)
  | 0, i, X, h => by
    rw [show 1 + 10 * 0 = 0 + 1 from rfl, codec_Sum.l0]
    rw [if_neg (by omega), List.drop_of_length_le (by omega)]
    rfl
  | n + 1, i, X, h => by
    rw [show 1 + 10 * (n + 1) = (1 + 10 * n) + 10 from by omega, sumP_byte x6 hb hl _ i X (by omega), sumP_from x6 hb hl n (i + 1) _ (by omega)]
    rw [drop_getD x6 i (by omega)]
    rfl

theorem sumP (l : List Int) (hb : Bytes l) (hl : l.length ≤ 9223372036854775806) : codec_Sum.f (1 + 10 * l.length) l = some (crc l) := by
  have h := sumP_from l hb hl l.length 0 0#64 (by omega)
  unfold codec_Sum.f
  exact h

/-! ### the reference's -/
theorem and_bit (v : Nat) (hv : v < 18446744073709551616) : bits .and .u64 (v : Int) 1 = ((v % 2 : Nat) : Int) := by
  have h1 : (BitVec.ofInt 64 (v : Int)).toNat = v := by
    rw [BitVec.ofInt_natCast, BitVec.toNat_ofNat]; exact Nat.mod_eq_of_lt (by omega)
  show IntKind.u64.wrap ((BitVec.ofInt 64 (v : Int) &&& BitVec.ofInt 64 1).toNat : Int) = _
  rw [BitVec.toNat_and, h1, IntKind.wrap_u64]
  have h2 : (BitVec.ofInt 64 1).toNat = 1 := by decide
  rw [h2, Nat.and_one_is_mod]
  omega

theorem ref_test (R : BitVec 64) (b d : Nat) (hb : b < 256) (hd : d < 8) :
    (bits .xor .u64 ((R.toNat : Int) / 9223372036854775808) (bits .and .u64 (shr .u64 (IntKind.u64.wrap (b : Int)) (IntKind.u64.wrap (d : Int))) 1) = 1) ↔ ((R.msb != (BitVec.ofNat 64 b).getLsbD d) = true) := by
  have e1 : IntKind.u64.wrap (b : Int) = b := by rw [IntKind.wrap_u64]; omega
  have e2 : IntKind.u64.wrap (d : Int) = d := by rw [IntKind.wrap_u64]; omega
  have e3 : shr .u64 (b : Int) (d : Int) = ((b / 2 ^ d : Nat) : Int) := by
    unfold shr
    rw [Int.toNat_natCast, Nat.min_eq_left (by show d ≤ 64; omega)]
    simp
  have hq : b / 2 ^ d ≤ b := Nat.div_le_self _ _
  rw [e1, e2, e3, and_bit _ (by omega), Crc.top]
  have e4 : (BitVec.ofNat 64 b).getLsbD d = decide (b / 2 ^ d % 2 = 1) := by
    rw [BitVec.getLsbD_ofNat, Nat.testBit_eq_decide_div_mod_eq]
    simp [show d < 64 by omega]
  rw [e4]
  have h2 : b / 2 ^ d % 2 < 2 := Nat.mod_lt _ (by omega)
  generalize b / 2 ^ d % 2 = v at h2
  rcases (show v = 0 ∨ v = 1 by omega) with rfl | rfl <;> cases R.msb <;> simp <;> decide +kernel

theorem sumR_bits (x0 : List Int) (x4 : Int) (h0 : 0 ≤ x4) (hx : x4 < x0.length) (b : Nat) (hb : b < 256) (hrd : rd x0 x4 = b) (k : Nat) : ∀ (d : Nat) (R : BitVec 64) (j : Int), d ≤ 8 → j = (d : Int) - 1 →
    longstopref01_Sum.l1 (k + d + 1) x0 (R.toNat : Int) x4 j = longstopref01_Sum.l0 k x0 ((iter d (R ^^^ (BitVec.ofNat 64 b <<< (64 - d)))).toNat : Int) (wrap64 (x4 + 1))
  | 0, R, j, _, hj => by
    simp only [Nat.add_zero, longstopref01_Sum.l1]
    rw [if_neg (by omega)]
    have e : R ^^^ (BitVec.ofNat 64 b <<< (64 - 0)) = R := by
      rw [show BitVec.ofNat 64 b <<< (64 - 0) = 0#64 from BitVec.shiftLeft_eq_zero (by omega), BitVec.xor_zero]
    rw [e]
    rfl
  | d + 1, R, j, hd, hj => by
    obtain rfl : j = (d : Int) := by omega
    rw [show k + (d + 1) + 1 = (k + d + 1) + 1 from by omega]
    rw [longstopref01_Sum.l1]
    rw [if_pos (by omega), if_pos h0, if_pos hx, if_pos (by rw [IntKind.wrap_u64]; omega), hrd, wrap_down (by omega) (by omega)]
    have hst := Crc.st_xor R (BitVec.ofNat 64 b) (63 - d) (by omega)
    rw [show 63 - (63 - d) = d from by omega, show 63 - d + 1 = 64 - d from by omega] at hst
    have hr := Crc.ref_step R (R.msb != (BitVec.ofNat 64 b).getLsbD d)
    have ht := ref_test R b d hb (by omega)
    have ei : iter (d + 1) (R ^^^ (BitVec.ofNat 64 b <<< (64 - (d + 1)))) = iter d (sr R (R.msb != (BitVec.ofNat 64 b).getLsbD d) ^^^ (BitVec.ofNat 64 b <<< (64 - d))) := by
      show iter d (st _) = _
      rw [show 64 - (d + 1) = 63 - d from by omega, hst]
    rw [ei]
    cases hc : (R.msb != (BitVec.ofNat 64 b).getLsbD d)
    · rw [hc] at hr ht
      rw [if_neg (fun h => by simpa using ht.1 h)]
      simp only [Bool.false_eq_true, if_false] at hr
      rw [hr]
      exact sumR_bits x0 x4 h0 hx b hb hrd k d _ _ (by omega) (by omega)
    · rw [hc] at hr ht
      rw [if_pos (ht.2 rfl)]
      simp only [if_true] at hr
      rw [hr]
      exact sumR_bits x0 x4 h0 hx b hb hrd k d _ _ (by omega) (by omega)

theorem sumR_from (x0 : List Int) (hb : Bytes x0) (hl : x0.length ≤ 9223372036854775806) : ∀ (n i : Nat) (X : BitVec 64), i + n = x0.length →
    longstopref01_Sum.l0 (1 + 10 * n) x0 (X.toNat : Int) (i : Int) = some ((crcFrom X (x0.drop i)).toNat : Int)
  | 0, i, X, h => by
    rw [show 1 + 10 * 0 = 0 + 1 from rfl, longstopref01_Sum.l0]
    rw [if_neg (by omega), List.drop_of_length_le (by omega)]
    rfl
  | n + 1, i, X, h => by
    obtain ⟨b, hb1, hb2⟩ := hb.nat (show i < x0.length by omega)
    have e : rd x0 (i : Int) = (b : Int) := by unfold rd; rw [Int.toNat_natCast]; exact hb1
    rw [show 1 + 10 * (n + 1) = (1 + 10 * n + 8 + 1) + 1 from by omega, longstopref01_Sum.l0]
    rw [if_pos (by omega), sumR_bits x0 i (by omega) (by omega) b hb2 e (1 + 10 * n) 8 X 7 (by omega) (by omega), wrap_up (by omega) (by omega)]
    rw [drop_getD x0 i (by omega)]
    have hn := sumR_from x0 hb hl n (i + 1) (byte X (BitVec.ofNat 64 (x0.getD i 0).toNat)) (by omega)
    rw [hb1, Int.toNat_natCast] at hn
    rw [hb1]
    show _ = some ((crcFrom (byte X (BitVec.ofNat 64 (b : Int).toNat)) (x0.drop (i + 1))).toNat : Int)
    rw [Int.toNat_natCast]
    exact hn

theorem sumR (l : List Int) (hb : Bytes l) (hl : l.length ≤ 9223372036854775806) : longstopref01_Sum.f (1 + 10 * l.length) l = some (crc l) := by
  have h := sumR_from l hb hl l.length 0 0#64 (by omega)
  unfold longstopref01_Sum.f
  exact h

theorem crc_range (l : List Int) : 0 ≤ crc l ∧ crc l < 18446744073709551616 := by
  unfold crc
  have := (crcFrom 0#64 l).isLt
  omega

end Go.Proofs.Ytbffeibcndbmgaa.Pg

/-! ## GWx0 -/
namespace Go.Proofs.Ytbffeibcndbmgaa.GW
open Go.RowKit Go.Proofs.YtbffeibcndbmgaaW.PrintWords Go.Proofs.YtbffeibcndbmgaaW.PrintLast Go.Proofs.YtbffeibcndbmgaaW.PrintMore
attribute [local go_sem] max2_int min2_int max_two min_two max_three min_three max_four min_four   -- for this text's walks alone
set_option linter.unusedVariables false
set_option linter.unusedSimpArgs false



def errW : Option Int → Value
  | none => .nilIface
  | some c => .iface 0 (.int .i64 c)
theorem errW_none : errW none = .nilIface := rfl
theorem errW_some (c : Int) : errW (some c) = .iface 0 (.int .i64 c) := rfl

theorem info5 : (Try.prog.info? 5).map (fun i => (i.zero, i.size, i.bytes)) = some (some (.int .u8 0), 1, 1) := by kernel_rfl
theorem info59 : (Try.prog.info? 59).map (fun i => (i.zero, i.size, i.bytes)) = some (some (.agg #[(.slice none 0 0), (.bool false)]), 2, 32) := by kernel_rfl
-- the values' own types
def rd_L1 (xs : List (List Int)) (i : Int) : (List Int) := xs.getD i.toNat ([] : List Int)
theorem at_L1 {w : World} {A : Option Addr} {n : Nat} {xs : List (List Int)} (h : Kd.C (Kd.slice 5 (Kd.int .u8)) w A n xs) (i : Int) (h0 : 0 ≤ i) (h1 : i < n) : ∃ ad A0 c0, A = some ad ∧ w.cell? (ad.add i.toNat) = some (.slice A0 (rd_L1 xs i).length c0) ∧ (rd_L1 xs i).length ≤ c0 ∧ (Kd.int .u8).C w A0 (rd_L1 xs i).length (rd_L1 xs i) := by
  obtain ⟨ad, c, e, _, hK, hc0⟩ := Kd.C_get h ([] : List Int) i h0 h1
  have hc : ∀ j u, c[j]? = some u → w.cell? (ad.add (i.toNat * 1 + j)) = some u := hc0
  obtain ⟨A0, c0, rfl, l0, g0⟩ := hK
  exact ⟨ad, A0, c0, e, by have hq := hc 0 _ rfl; rwa [Nat.mul_one, Nat.add_zero] at hq, l0, g0⟩

/-! #### struct type 59 -/
structure S59 where
  f0 : (List Int)
  f1 : Bool
def z59 : S59 := ⟨([] : List Int), false⟩
def k59 : Kd S59 := Kd.iso (Kd.pair (Kd.slice 5 (Kd.int .u8)) Kd.bool) (fun x : S59 => (x.f0, x.f1))
theorem k59_open {w : World} {x : S59} {cs : List Value} (h : k59.K w x cs) : ∃ A0 c0, cs = [.slice A0 x.f0.length c0, .bool x.f1] ∧ x.f0.length ≤ c0 ∧ (Kd.int .u8).C w A0 x.f0.length x.f0 := by
  obtain ⟨_, _, rfl, ⟨A0, c0, rfl, l0, g0⟩, rfl⟩ := h
  exact ⟨A0, c0, rfl, l0, g0⟩
theorem k59_openM {w : World} {base : Nat} {ok : Nat → Prop} {x : S59} {cs : List Value} (h : k59.M w base ok x cs) : ∃ v0, cs = [v0, .bool x.f1] ∧ (Kd.int .u8).R 5 w base ok v0 x.f0 := by
  obtain ⟨_, _, rfl, ⟨v0, rfl, g0⟩, rfl⟩ := h
  exact ⟨v0, rfl, g0⟩
theorem k59_mk (w : World) (x : S59) {A0 : Option Addr} {c0 : Nat} (l0 : x.f0.length ≤ c0) (g0 : (Kd.int .u8).C w A0 x.f0.length x.f0) : k59.K w x [.slice A0 x.f0.length c0, .bool x.f1] := ⟨[.slice A0 x.f0.length c0], [.bool x.f1], rfl, ⟨A0, c0, rfl, l0, g0⟩, rfl⟩
theorem k59_mkM (w : World) (base : Nat) (ok : Nat → Prop) (x : S59) {v0 : Value} (g0 : (Kd.int .u8).R 5 w base ok v0 x.f0) : k59.M w base ok x [v0, .bool x.f1] := ⟨[v0], [.bool x.f1], rfl, ⟨v0, rfl, g0⟩, rfl⟩
theorem k59_openF {W : World} {ok : Nat → Prop} {x : S59} {cs : List Value} (h : Kd.FK k59 W ok x cs) : ∃ A0 c0, cs = [.slice A0 x.f0.length c0, .bool x.f1] ∧ x.f0.length ≤ c0 ∧ Kd.F (Kd.int .u8) W ok A0 x.f0.length x.f0 := by
  obtain ⟨A0, c0, rfl, l0, _⟩ := k59_open (Kd.FK_now h)
  exact ⟨A0, c0, rfl, l0, (fun W' hW => by obtain ⟨A0_, c0_, he, l0_, g0_⟩ := k59_open (h W' hW); injection (Option.some.inj (show some (Value.slice A0 x.f0.length c0) = some (Value.slice A0_ x.f0.length c0_) from congrArg (fun l => l[0]?) he)) with ha_ _ _; rw [ha_]; exact g0_)⟩
theorem k59_mkF (W : World) (ok : Nat → Prop) (x : S59) {A0 : Option Addr} {c0 : Nat} (l0 : x.f0.length ≤ c0) (g0 : Kd.F (Kd.int .u8) W ok A0 x.f0.length x.f0) : Kd.FK k59 W ok x [.slice A0 x.f0.length c0, .bool x.f1] := fun W2 hW => k59_mk W2 x l0 (g0 W2 hW)
def rd_T59 (xs : List S59) (i : Int) : S59 := xs.getD i.toNat z59
theorem at_T59 {w : World} {A : Option Addr} {n : Nat} {xs : List S59} (h : Kd.C k59 w A n xs) (i : Int) (h0 : 0 ≤ i) (h1 : i < n) : ∃ ad A0 c0, A = some ad ∧ w.cell? (ad.add (i.toNat * 2)) = some (.slice A0 (rd_T59 xs i).f0.length c0) ∧ w.cell? ⟨(ad.add (i.toNat * 2)).block, (ad.add (i.toNat * 2)).off + 1, none⟩ = some (.bool (rd_T59 xs i).f1) ∧ (rd_T59 xs i).f0.length ≤ c0 ∧ (Kd.int .u8).C w A0 (rd_T59 xs i).f0.length (rd_T59 xs i).f0 := by
  obtain ⟨ad, c, e, _, hK, hc0⟩ := Kd.C_get h z59 i h0 h1
  have hc : ∀ j u, c[j]? = some u → w.cell? (ad.add (i.toNat * 2 + j)) = some u := hc0
  obtain ⟨A0, c0, rfl, l0, g0⟩ := k59_open hK
  exact ⟨ad, A0, c0, e, hc 0 _ rfl, by rw [← add_field _ _ 1 (by omega)]; exact hc 1 _ rfl, l0, g0⟩

end Go.Proofs.Ytbffeibcndbmgaa.GW

/-! ## Steps -/
namespace Go.Proofs.Ytbffeibcndbmgaa.Pg
open Go

theorem step_dst {P : Program} {ops : Array Oper} {o : Oper} {a : Act} {w : World} {K : Act → World → Prop} {Q : Exit → Act → World → Prop} {E : Prop} (N : Tmp) (_h : o.dst = some N)
    (h : if Region.wanted o (yielded ops a.tmps) = true then Oper.wp P o a w K Q else E) : if Region.wanted o (yielded ops a.tmps) = true then Oper.wp P o a w K Q else E := h

end Go.Proofs.Ytbffeibcndbmgaa.Pg

/-! ## GWx1 -/
namespace Go.Proofs.Ytbffeibcndbmgaa.GW
open Go.RowKit Go.Proofs.YtbffeibcndbmgaaW.PrintWords Go.Proofs.YtbffeibcndbmgaaW.PrintLast Go.Proofs.YtbffeibcndbmgaaW.PrintMore
attribute [local go_sem] max2_int min2_int max_two min_two max_three min_three max_four min_four   -- for this text's walks alone
set_option linter.unusedVariables false
set_option linter.unusedSimpArgs false

/-! ### longstopref12_two: function 40 -/
def longstopref12_two.f (a0 : Int) : Option (List Int) := some (([(wrap64 (Int.tdiv a0 256)) % 256, (Int.tmod a0 256) % 256] : List Int))
set_option maxHeartbeats 8000000 in
set_option maxRecDepth 100000 in
theorem longstopref12_two.calls (a0 : Int) (r : List Int) (w : World) (h : longstopref12_two.f a0 = some r) :
    Calls Try.prog 40 #[.int .i64 a0] w fun e w' => ∃ v0_ : Value, e = .returned (v0_) ∧ Kd.R (Kd.int .u8) 5 w' w.heap.size (fun _ => True) v0_ r ∧ Below w.heap.size w w' := by
  have HB := Aside0.mk (Below.refl w.heap.size w)
  have H : (some (([(wrap64 (Int.tdiv a0 256)) % 256, (Int.tmod a0 256) % 256] : List Int))) = some r := h
  clear h
  obtain ⟨y101, hy101⟩ : ∃ y_ : List Int, y_ = (([(wrap64 (Int.tdiv a0 256)) % 256, (Int.tmod a0 256) % 256] : List Int)) := ⟨_, rfl⟩
  replace H : (some y101) = some r := by first | (rw [hy101]; with_reducible exact H) | (have H2_ := (Option.bind_some _ _).symm.trans H; rw [hy101]; with_reducible exact H2_) | (have H2_ := (Option.bind_some _ _).symm.trans H; with_reducible exact H2_) | with_reducible exact H | (rw [hy101]; exact H) | exact H
  have Ny101 := Aside0.mk hy101
  clear hy101
  obtain rfl := Option.some.inj H
  go_enter Try.func40, Try.ntmps40
  go_wp2_with (first | ((with_reducible refine gate_dst (N := 9) rfl ?_); refine Kd.R_lit (Kd.int .u8) _ 5 ?hg (N := 9) ?hd (xs := ([(wrap64 (Int.tdiv a0 256)) % 256, (Int.tmod a0 256) % 256] : List Int)) (inner := [.int .u8 ((wrap64 (Int.tdiv a0 256)) % 256), .int .u8 ((Int.tmod a0 256) % 256)]) (ok := fun _ => True) (okp := fun _ => True) ?hr ?hp (fun _ hk => hk) trivial (Below.refl _ _) (Nat.le_refl _) (by simp) ?_; (case hd => rfl); (case hg => rfl); (case hr => first | (go_simp; done) | (go_simp; rfl)); (case hp => exact (Reps.one (show Kd.M (Kd.int .u8) _ _ _ ((wrap64 (Int.tdiv a0 256)) % 256) [.int .u8 ((wrap64 (Int.tdiv a0 256)) % 256)] from rfl) (Reps.one (show Kd.M (Kd.int .u8) _ _ _ ((Int.tmod a0 256) % 256) [.int .u8 ((Int.tmod a0 256) % 256)] from rfl) (Reps.none _ _)))); intro v102 w2 ho3 hb hg_ hnew_; clear hg_ hnew_; (first | rw [← Ny101.out] at ho3 | (simp only [Int.reduceToNat] at ho3; rw [← Ny101.out] at ho3)); have n0_ := Aside0.mk (Kd.R_lower ho3 (below_size (by repeat (first | (with_reducible first | exact HB.out | apply below_alloc | apply pw_below_drewN | apply below_drew1) | exact HB.out)))); have n1_ := Aside0.mk (below_step (by repeat (first | (with_reducible first | exact HB.out | apply below_alloc | apply pw_below_drewN | apply below_drew1) | exact HB.out)) hb); clear HB; have HO103 := n0_; have HB := n1_; clear n0_ n1_; clear hb ho3))
  go_ret
  exact ⟨_, by first | rfl | (simp [errW_none, errW_some] <;> rfl) | (simp [*, errW_none, errW_some] <;> rfl), by (with_reducible repeat (first | apply Kd.R_alloc | apply Kd.R_drewN | apply Kd.R_drew)); exact HO103.out, by repeat (first | (with_reducible first | exact HB.out | apply below_alloc | apply pw_below_drewN | apply below_drew1) | exact HB.out)⟩

/-! ### longstopref01_Sum: function 41 -/
def longstopref01_Sum.f (l0 : List Int) : Option (Int) := if Pg.bytesB l0 = true ∧ l0.length ≤ 100000 then some (Pg.crc l0) else none
theorem longstopref01_Sum.calls (A0 : Option Addr) (c0 : Nat) (l0 : List Int) (r : Int) (w : World) (hr0 : Kd.C (Kd.int .u8) w A0 l0.length l0) (hc0 : l0.length ≤ c0) (h : longstopref01_Sum.f l0 = some r) :
    Calls Try.prog 41 #[.slice A0 l0.length c0] w fun e w' => e = .returned (.int .u64 r) ∧ Below w.heap.size w w' := by
  unfold longstopref01_Sum.f at h
  split at h
  · rename_i hb
    have h1 := Pg.sumR l0 (Pg.bytesB_iff.1 hb.1) (by have := hb.2; omega)
    rw [h] at h1
    refine (PPageSteps.longstopref01_Sum.calls (1 + 10 * l0.length) A0 c0 l0 r w hr0 hc0 h1).mono ?_
    intro e w' h2
    exact ⟨h2.1, h2.2.below⟩
  · cases h

/-! ### longstopref12_write: function 31 -/
mutual
def longstopref12_write.j1 : Nat → List (S59) → Option (List Int)
  | 0, _ => none
  | k + 1, x0 => (longstopref12_two.f (x0.length : Int)).bind fun t110 => (longstopref12_write.l1 k x0 t110 ([] : List Int) 504 0)
def longstopref12_write.l1 : Nat → List (S59) → List Int → List Int → Int → Int → Option (List Int)
  | 0, _, _, _, _, _ => none
  | k + 1, x0, x3, x4, x5, x6 => if x6 < (x0.length : Int) then (if 0 ≤ x6 then (if ((rd_T59 x0 x6).f1 = true) then ((longstopref12_two.f (wrap64 (x5 - (((rd_T59 x0 x6).f0).length : Int)))).bind fun t115 => (if x3.length + t115.length < 140737488355328 then ((some (x3 ++ t115 : List Int)).bind fun y118 => ((longstopref12_two.f (((rd_T59 x0 x6).f0).length : Int)).bind fun t122 => (if y118.length + t122.length < 140737488355328 then ((some (([] : List Int) : List Int)).bind fun y128 => (if y128.length + ((rd_T59 x0 x6).f0).length < 140737488355328 then ((some (y128 ++ ((rd_T59 x0 x6).f0) : List Int)).bind fun y132 => (if y132.length + x4.length < 140737488355328 then (longstopref12_write.l1 k x0 (y118 ++ t122) (y132 ++ x4) (wrap64 (x5 - (((rd_T59 x0 x6).f0).length : Int))) (wrap64 (x6 + 1))) else (none))) else (none))) else (none)))) else (none))) else ((some (([0, 0, 0, 0] : List Int) : List Int)).bind fun y138 => (if x3.length + y138.length < 140737488355328 then (longstopref12_write.l1 k x0 (x3 ++ y138) x4 x5 (wrap64 (x6 + 1))) else (none)))) else (none)) else (if 0 ≤ (wrap64 (x5 - (x3.length : Int))) then (if x3.length + (wrap64 (x5 - (x3.length : Int)) : Int).toNat < 140737488355328 then ((some (x3 ++ List.replicate (wrap64 (x5 - (x3.length : Int)) : Int).toNat 0 : List Int)).bind fun y144 => (if y144.length + x4.length < 140737488355328 then ((some (y144 ++ x4 : List Int)).bind fun y147 => ((longstopref01_Sum.f y147).bind fun t150 => (longstopref12_write.l2 k y147 t150 56))) else (none))) else (none)) else (none))
def longstopref12_write.l2 : Nat → List Int → Int → Int → Option (List Int)
  | 0, _, _, _ => none
  | k + 1, x3, x7, x8 => if x8 ≥ 0 then (if 0 ≤ (IntKind.u64.wrap (x8)) then (if x3.length < 140737488355328 then (longstopref12_write.l2 k (x3 ++ [(shr .u64 x7 (IntKind.u64.wrap (x8))) % 256]) x7 (wrap64 (x8 - 8))) else (none)) else (none)) else (some x3)
def longstopref12_write.l0 : Nat → List (S59) → Option (List Int)
  | 0, _ => none
  | k + 1, x0 => if (x0.length : Int) > 0 then (if 0 ≤ (wrap64 ((x0.length : Int) - 1)) then (if (wrap64 ((x0.length : Int) - 1)) < (x0.length : Int) then (if ((rd_T59 x0 (wrap64 ((x0.length : Int) - 1))).f1 = true) then (longstopref12_write.j1 k x0) else (if (wrap64 ((x0.length : Int) - 1)) ≤ (x0.length : Int) then (longstopref12_write.l0 k (x0.take ((wrap64 ((x0.length : Int) - 1)) : Int).toNat)) else (none))) else (none)) else (none)) else (longstopref12_write.j1 k x0)
end
def longstopref12_write.f (k : Nat) (l0 : List (S59)) : Option (List Int) := longstopref12_write.l0 k l0
theorem longstopref12_write.mono_l : ∀ k, (∀ y0, LeO (longstopref12_write.j1 k y0) (longstopref12_write.j1 (k + 1) y0)) ∧ (∀ y0 y1 y2 y3 y4, LeO (longstopref12_write.l1 k y0 y1 y2 y3 y4) (longstopref12_write.l1 (k + 1) y0 y1 y2 y3 y4)) ∧ (∀ y0 y1 y2, LeO (longstopref12_write.l2 k y0 y1 y2) (longstopref12_write.l2 (k + 1) y0 y1 y2)) ∧ (∀ y0, LeO (longstopref12_write.l0 k y0) (longstopref12_write.l0 (k + 1) y0))
  | 0 => ⟨fun _ r h => by simp [longstopref12_write.j1] at h, fun _ _ _ _ _ r h => by simp [longstopref12_write.l1] at h, fun _ _ _ r h => by simp [longstopref12_write.l2] at h, fun _ r h => by simp [longstopref12_write.l0] at h⟩
  | k + 1 => by
    obtain ⟨ih0, ih1, ih2, ih3⟩ := longstopref12_write.mono_l k
    refine ⟨?_, ?_, ?_, ?_⟩
    · intro y0
      unfold longstopref12_write.j1
      repeat' first
      | (with_reducible exact ih0 _)
      | (with_reducible exact ih1 _ _ _ _ _)
      | (with_reducible exact ih2 _ _ _)
      | (with_reducible exact ih3 _)
      | (with_reducible exact LeO.refl _)
      | (with_reducible exact LeO.none _)
      | (with_reducible refine LeO.ite ?_ ?_)
      | (with_reducible refine LeO.bind ?_ (fun _ => ?_))
      | exact ih0 _
      | exact ih1 _ _ _ _ _
      | exact ih2 _ _ _
      | exact ih3 _
      | exact LeO.none _
      | refine LeO.ite ?_ ?_
      | refine LeO.bind ?_ (fun _ => ?_)
    · intro y0 y1 y2 y3 y4
      unfold longstopref12_write.l1
      repeat' first
      | (with_reducible exact ih0 _)
      | (with_reducible exact ih1 _ _ _ _ _)
      | (with_reducible exact ih2 _ _ _)
      | (with_reducible exact ih3 _)
      | (with_reducible exact LeO.refl _)
      | (with_reducible exact LeO.none _)
      | (with_reducible refine LeO.ite ?_ ?_)
      | (with_reducible refine LeO.bind ?_ (fun _ => ?_))
      | exact ih0 _
      | exact ih1 _ _ _ _ _
      | exact ih2 _ _ _
      | exact ih3 _
      | exact LeO.none _
      | refine LeO.ite ?_ ?_
      | refine LeO.bind ?_ (fun _ => ?_)
    · intro y0 y1 y2
      unfold longstopref12_write.l2
      repeat' first
      | (with_reducible exact ih0 _)
      | (with_reducible exact ih1 _ _ _ _ _)
      | (with_reducible exact ih2 _ _ _)
      | (with_reducible exact ih3 _)
      | (with_reducible exact LeO.refl _)
      | (with_reducible exact LeO.none _)
      | (with_reducible refine LeO.ite ?_ ?_)
      | (with_reducible refine LeO.bind ?_ (fun _ => ?_))
      | exact ih0 _
      | exact ih1 _ _ _ _ _
      | exact ih2 _ _ _
      | exact ih3 _
      | exact LeO.none _
      | refine LeO.ite ?_ ?_
      | refine LeO.bind ?_ (fun _ => ?_)
    · intro y0
      unfold longstopref12_write.l0
      repeat' first
      | (with_reducible exact ih0 _)
      | (with_reducible exact ih1 _ _ _ _ _)
      | (with_reducible exact ih2 _ _ _)
      | (with_reducible exact ih3 _)
      | (with_reducible exact LeO.refl _)
      | (with_reducible exact LeO.none _)
      | (with_reducible refine LeO.ite ?_ ?_)
      | (with_reducible refine LeO.bind ?_ (fun _ => ?_))
      | exact ih0 _
      | exact ih1 _ _ _ _ _
      | exact ih2 _ _ _
      | exact ih3 _
      | exact LeO.none _
      | refine LeO.ite ?_ ?_
      | refine LeO.bind ?_ (fun _ => ?_)
theorem longstopref12_write.mono : ∀ a0 k, LeO (longstopref12_write.f k a0) (longstopref12_write.f (k + 1) a0) := by
  intro a0 k
  obtain ⟨ih0, ih1, ih2, ih3⟩ := longstopref12_write.mono_l k
  unfold longstopref12_write.f
  repeat' first
      | (with_reducible exact ih0 _)
      | (with_reducible exact ih1 _ _ _ _ _)
      | (with_reducible exact ih2 _ _ _)
      | (with_reducible exact ih3 _)
      | (with_reducible exact LeO.refl _)
      | (with_reducible exact LeO.none _)
      | (with_reducible refine LeO.ite ?_ ?_)
      | (with_reducible refine LeO.bind ?_ (fun _ => ?_))
      | exact ih0 _
      | exact ih1 _ _ _ _ _
      | exact ih2 _ _ _
      | exact ih3 _
      | exact LeO.none _
      | refine LeO.ite ?_ ?_
      | refine LeO.bind ?_ (fun _ => ?_)
set_option maxHeartbeats 8000000 in
set_option maxRecDepth 100000 in
theorem longstopref12_write.calls (k : Nat) (P0_ : Nat → Prop) (A0 : Option Addr) (c0 : Nat) (l0 : List (S59)) (r : List Int) (w : World) (hs0 : Kd.V k59 59 w w.heap.size (fun k_ => P0_ k_) (.slice A0 l0.length c0) l0) (h : longstopref12_write.f k l0 = some r) :
    Calls Try.prog 31 #[.slice A0 l0.length c0] w fun e w' => ∃ v0_ : Value, e = .returned (v0_) ∧ Kd.R (Kd.int .u8) 5 w' w.heap.size (fun k_ => (w.heap.size ≤ k_)) v0_ r ∧ Below w.heap.size w w' := by
  have HO0 := Aside0.mk (show Kd.V k59 59 w w.heap.size (fun k_ => (P0_ k_ ∨ w.heap.size ≤ k_)) (.slice A0 l0.length c0) l0 from Kd.V_mono hs0 (fun k_ hk => .inl hk))
  have HB := Aside0.mk (Below.refl w.heap.size w)
  have H : (longstopref12_write.l0 k l0) = some r := h
  clear h
  have HC2 := Aside0.mk H
  clear H
  go_enter Try.func31, Try.ntmps31
  go_upto_block 0 with (fail)
  go_cut [0] (fun v0 wc => ∃ (kq : Nat) (x0_1 : List (S59)), Aside0 (longstopref12_write.j1 kq x0_1 = some r) ∧ Aside0 (kq ≤ k) ∧ Aside0 (Kd.V k59 59 wc w.heap.size (fun k_ => (P0_ k_ ∨ w.heap.size ≤ k_)) v0 x0_1) ∧ Aside0 (Below w.heap.size w wc))
  case first =>
    have H := HC2.out
    clear HC2
    have H' := Aside0.mk H
    clear H
    go_wp2
    go_loopg [0] k (fun kq v0 w' => ∃ (x0_1 : List (S59)), Aside0 (longstopref12_write.l0 kq x0_1 = some r) ∧ Aside0 (kq ≤ k) ∧ Aside0 (Kd.V k59 59 w' w.heap.size (fun k_ => (P0_ k_ ∨ w.heap.size ≤ k_)) v0 x0_1) ∧ Aside0 (Below w.heap.size w w'))
    case atStart => exact ⟨(l0), H', ⟨Nat.le_refl _⟩, ⟨by (with_reducible repeat (first | apply Kd.V_alloc | apply Kd.V_drewN | apply Kd.V_drew)); exact HO0.out⟩, ⟨by repeat (first | (with_reducible first | exact HB.out | apply below_alloc | apply pw_below_drewN | apply below_drew1) | exact HB.out)⟩⟩
    case round =>
      clear H'
      try clear p2
      obtain ⟨x0_1, HA, HK1, HO_0, HB⟩ := hrel
      cases gk with
      | zero => exact absurd HA.out (by simp [longstopref12_write.l0])
      | succ k1 =>
        have H := HA.out
        clear HA
        simp only [longstopref12_write.l0] at H
        by_cases c3 : (x0_1.length : Int) > 0
        · rw [if_pos c3] at H
          have c3b0 : decide (0 < (x0_1.length : Int)) = true := decide_eq_true c3
          have c3b1 : decide (0 < x0_1.length) = true := decide_eq_true (by omega)
          clear c3
          (first | rw [c3b0] | (simp only [i64_w, i32_w]; rw [c3b0]) | skip)
          obtain ⟨ji4, hji4⟩ : ∃ j_ : Int, (wrap64 ((x0_1.length : Int) - 1)) = j_ := ⟨_, rfl⟩
          replace H : (if 0 ≤ (ji4) then (if (ji4) < (x0_1.length : Int) then (if ((rd_T59 x0_1 (ji4)).f1 = true) then (longstopref12_write.j1 k1 x0_1) else (if (ji4) ≤ (x0_1.length : Int) then (longstopref12_write.l0 k1 (x0_1.take ((ji4) : Int).toNat)) else (none))) else (none)) else (none)) = some r := by first | (rw [hji4] at H; exact H) | (simp only [hji4] at H ⊢; exact H)
          have hji4w : (IntKind.i64.wrap ((x0_1.length : Int) - 1)) = ji4 := (i64_w _).trans hji4
          by_cases c5 : 0 ≤ (ji4)
          · rw [if_pos c5] at H
            have c5b0 : decide (0 ≤ (ji4)) = true := decide_eq_true c5
            clear c5
            by_cases c6 : (ji4) < (x0_1.length : Int)
            · rw [if_pos c6] at H
              have c6b0 : decide ((ji4) < (x0_1.length : Int)) = true := decide_eq_true c6
              clear c6
              obtain ⟨bq7, hbq7⟩ : ∃ b_ : Bool, b_ = ((rd_T59 x0_1 (ji4)).f1) := ⟨_, rfl⟩
              replace H : (if (bq7 = true) then (longstopref12_write.j1 k1 x0_1) else (if (ji4) ≤ (x0_1.length : Int) then (longstopref12_write.l0 k1 (x0_1.take ((ji4) : Int).toNat)) else (none))) = some r := by rw [← hbq7] at H; exact H
              have Nbq7 := Aside0.mk hbq7
              clear hbq7
              by_cases c8 : (bq7 = true)
              · subst c8
                have H1 : (longstopref12_write.j1 k1 x0_1) = some r := by rw [if_pos rfl] at H; exact H
                clear H
                have H := H1
                clear H1
                have H' := Aside0.mk H
                clear H
                obtain ⟨Ao9, co9, eo9⟩ := Kd.V_slice HO_0.out
                subst eo9
                have p104 : 0 ≤ ((ji4) : Int) := of_decide_eq_true (by first | (with_reducible assumption) | assumption)
                have q104 : (ji4) < (x0_1.length : Int) := of_decide_eq_true (by first | (with_reducible assumption) | assumption)
                obtain ⟨ad104, A104_0, c104_0, e104, hx104_0, hx104_1, hl104_0, hi104_0⟩ := at_T59 (Kd.V_reads' HO_0.out).2.2 (ji4) p104 q104
                (try rw [← Nbq7.out] at hx104_1)
                cases e104
                obtain ⟨ce104, hce104, hMe104, hcc104⟩ := Kd.V_get HO_0.out z59 (ji4) p104 (by first | exact q104 | exact of_decide_eq_true (by first | (with_reducible assumption) | assumption) | (have e_ := (Kd.V_reads' HO_0.out).1; omega))
                obtain ⟨ua104_0, uc104_0, rfl, ul104_0, ge104_0⟩ := k59_openF hMe104
                have hv104_0 := hcc104 0 _ rfl
                rw [Nat.add_zero] at hv104_0
                replace hv104_0 := Option.some.inj (hv104_0.symm.trans hx104_0)
                injection hv104_0 with hva_ hvn_ hvc_
                rw [hva_] at ge104_0
                rw [hvc_] at ul104_0
                have HL104_0 := Aside0.mk (show Kd.V (Kd.int .u8) 5 _ w.heap.size _ _ ((rd_T59 x0_1 (ji4)).f0) from Kd.V_mk ul104_0 ge104_0)
                clear hva_ hvn_ hvc_ ge104_0 ul104_0
                clear hcc104 hce104
                have HR104_0 := Aside0.mk hi104_0
                have HC104_0 := Aside0.mk hl104_0
                clear hi104_0 hl104_0
                replace p104 := eq_true p104
                replace q104 := eq_true q104
                go_wp2
                go_meet
                case rel => exact ⟨_, (x0_1), H', ⟨by have := HK1.out; first | omega | exact Nat.le_refl _⟩, ⟨by (with_reducible repeat (first | apply Kd.V_alloc | apply Kd.V_drewN | apply Kd.V_drew)); exact HO_0.out⟩, ⟨by repeat (first | (with_reducible first | exact HB.out | apply below_alloc | apply pw_below_drewN | apply below_drew1) | exact HB.out)⟩⟩
              · replace c8 := Bool.eq_false_iff.mpr c8
                subst c8
                have H1 : (if (ji4) ≤ (x0_1.length : Int) then (longstopref12_write.l0 k1 (x0_1.take ((ji4) : Int).toNat)) else (none)) = some r := by rw [if_neg (show ¬ (false = true) by decide)] at H; exact H
                clear H
                have H := H1
                clear H1
                have c10b0 := eq_true (of_decide_eq_true (by first | (with_reducible assumption) | assumption) : 0 ≤ (ji4))
                by_cases c11 : (ji4) ≤ (x0_1.length : Int)
                · rw [if_pos c11] at H
                  have c11b0 := eq_true c11
                  have c11b1 : decide ((ji4) ≤ (x0_1.length : Int)) = true := decide_eq_true c11
                  clear c11
                  obtain ⟨y105, hy105⟩ : ∃ y_ : List (S59), y_ = (x0_1.take ((ji4) : Int).toNat) := ⟨_, rfl⟩
                  replace H : (longstopref12_write.l0 k1 y105) = some r := by first | (rw [hy105]; with_reducible exact H) | (have H2_ := (Option.bind_some _ _).symm.trans H; rw [hy105]; with_reducible exact H2_) | (have H2_ := (Option.bind_some _ _).symm.trans H; with_reducible exact H2_) | with_reducible exact H | (rw [hy105]; exact H) | exact H
                  have Ny105 := Aside0.mk hy105
                  clear hy105
                  have H' := Aside0.mk H
                  clear H
                  obtain ⟨Ao12, co12, eo12⟩ := Kd.V_slice HO_0.out
                  subst eo12
                  have p104 : 0 ≤ ((ji4) : Int) := of_decide_eq_true (by first | (with_reducible assumption) | assumption)
                  have q104 : (ji4) < (x0_1.length : Int) := of_decide_eq_true (by first | (with_reducible assumption) | assumption)
                  obtain ⟨ad104, A104_0, c104_0, e104, hx104_0, hx104_1, hl104_0, hi104_0⟩ := at_T59 (Kd.V_reads' HO_0.out).2.2 (ji4) p104 q104
                  (try rw [← Nbq7.out] at hx104_1)
                  cases e104
                  obtain ⟨ce104, hce104, hMe104, hcc104⟩ := Kd.V_get HO_0.out z59 (ji4) p104 (by first | exact q104 | exact of_decide_eq_true (by first | (with_reducible assumption) | assumption) | (have e_ := (Kd.V_reads' HO_0.out).1; omega))
                  obtain ⟨ua104_0, uc104_0, rfl, ul104_0, ge104_0⟩ := k59_openF hMe104
                  have hv104_0 := hcc104 0 _ rfl
                  rw [Nat.add_zero] at hv104_0
                  replace hv104_0 := Option.some.inj (hv104_0.symm.trans hx104_0)
                  injection hv104_0 with hva_ hvn_ hvc_
                  rw [hva_] at ge104_0
                  rw [hvc_] at ul104_0
                  have HL104_0 := Aside0.mk (show Kd.V (Kd.int .u8) 5 _ w.heap.size _ _ ((rd_T59 x0_1 (ji4)).f0) from Kd.V_mk ul104_0 ge104_0)
                  clear hva_ hvn_ hvc_ ge104_0 ul104_0
                  clear hcc104 hce104
                  have HR104_0 := Aside0.mk hi104_0
                  have HC104_0 := Aside0.mk hl104_0
                  clear hi104_0 hl104_0
                  replace p104 := eq_true p104
                  replace q104 := eq_true q104
                  have q13 : ((ji4) : Int) ≤ ((x0_1.length : Int) : Int) := of_decide_eq_true (by first | (with_reducible assumption) | assumption)
                  obtain ⟨i013, hi013, _, hsz13, _⟩ := info_parts info59
                  have hroom13 : x0_1.length ≤ co12 := (Kd.V_reads' HO_0.out).2.1
                  have hC13 : Kd.F k59 _ _ (some ad104) x0_1.length x0_1 := (Kd.V_at (base := w.heap.size) HO_0.out).2.2
                  have hcut13 := cut_to (P := Try.prog) 55 59 .i64 Try.underlying55 hi013 (some ad104) x0_1.length co12 (ji4) (of_decide_eq_true (by first | (with_reducible assumption) | assumption)) q13 hroom13
                  have hr13 := Kd.F_take (m := ((ji4) : Int).toNat) hC13 (by omega)
                  have hy13 : y105.length = ((ji4) : Int).toNat := (by rw [Ny105.out, List.length_take]; omega)
                  rw [← Ny105.out] at hr13
                  rw [← hy13] at hcut13
                  have HO109 := Aside0.mk (show Kd.V k59 59 _ w.heap.size _ (.slice (some ad104) y105.length co12) y105 from Kd.V_mk (by omega) hr13)
                  have HC109 := Aside0.mk (show y105.length ≤ co12 from by omega)
                  clear hr13 hC13 hroom13 hi013 hsz13
                  have KY13 := Aside0.mk hy13
                  clear hy13
                  replace q13 := eq_true q13
                  go_wp2
                  go_roundg k1
                  case measure => have := HK1.out; omega
                  case rel => exact ⟨(y105), H', ⟨by have := HK1.out; omega⟩, ⟨by (with_reducible repeat (first | apply Kd.V_alloc | apply Kd.V_drewN | apply Kd.V_drew)); exact HO109.out⟩, ⟨by repeat (first | (with_reducible first | exact HB.out | apply below_alloc | apply pw_below_drewN | apply below_drew1) | exact HB.out)⟩⟩
                · rw [if_neg c11] at H
                  exact absurd H (by simp)
            · rw [if_neg c6] at H
              exact absurd H (by simp)
          · rw [if_neg c5] at H
            exact absurd H (by simp)
        · rw [if_neg c3] at H
          have c3b0 : decide (0 < (x0_1.length : Int)) = false := decide_eq_false c3
          have c3b1 : decide (0 < x0_1.length) = false := decide_eq_false (by omega)
          clear c3
          (first | rw [c3b0] | (simp only [i64_w, i32_w]; rw [c3b0]) | skip)
          have H' := Aside0.mk H
          clear H
          obtain ⟨Ao14, co14, eo14⟩ := Kd.V_slice HO_0.out
          subst eo14
          go_wp2
          go_meet
          case rel => exact ⟨_, (x0_1), H', ⟨by have := HK1.out; first | omega | exact Nat.le_refl _⟩, ⟨by (with_reducible repeat (first | apply Kd.V_alloc | apply Kd.V_drewN | apply Kd.V_drew)); exact HO_0.out⟩, ⟨by repeat (first | (with_reducible first | exact HB.out | apply below_alloc | apply pw_below_drewN | apply below_drew1) | exact HB.out)⟩⟩
  case rest =>
    clear HC2
    try clear c1
    try clear p1
    try clear q1
    try clear hx1
    try clear p2
    try clear c3
    try clear c3b0
    try clear c3b1
    try clear c5
    try clear c5b0
    try clear c6
    try clear c6b0
    try clear p6
    try clear q7
    try clear c8
    try clear c10
    try clear c10b0
    try clear p10
    try clear q10
    try clear hx10
    try clear c11
    try clear c11b0
    try clear c11b1
    try clear q13
    try clear hx104_0
    try clear hx104_1
    try clear p104
    try clear p2
    try clear q104
    try clear q13
    obtain ⟨kq, x0_1, HA, HJ1, HO_0, HB⟩ := hcut
    cases kq with
    | zero => exact absurd HA.out (by simp [longstopref12_write.j1])
    | succ kj1 =>
      have H := HA.out
      clear HA
      simp only [longstopref12_write.j1] at H
      replace H := Option.bind_eq_some_iff.mp H
      obtain ⟨t110, A150, H⟩ := H
      replace H : (longstopref12_write.l1 kj1 x0_1 t110 ([] : List Int) 504 0) = some r := H
      have A15 := Aside0.mk A150
      clear A150
      have H' := Aside0.mk H
      clear H
      obtain ⟨Ao16, co16, eo16⟩ := Kd.V_slice HO_0.out
      subst eo16
      go_wp2_with (first | ((with_reducible refine gate_callee (f := 40) rfl ?_); refine goesL_ (some 29) rfl rfl Try.func40 (by kernel_rfl) rfl #[.int .i64 (x0_1.length : Int)] rfl (by (try simp only [List.map_toArray, List.map_cons, List.map_nil]); first | done | rfl | (simp only [List.length_drop, List.length_take]; rfl)) ?_; (with_reducible refine (longstopref12_two.calls (x0_1.length : Int) t110 _ A15.out).mono ?_); rintro e w17 ⟨v111, rfl, ho0, hb⟩; refine ⟨_, rfl, ?_⟩; have n0_ := Aside0.mk (Kd.V_elder' (by (with_reducible repeat (first | apply Kd.V_alloc | apply Kd.V_drewN | apply Kd.V_drew)); exact HO_0.out) (Kd.R_base ho0) hb); have n1_ := Aside0.mk (Kd.R_lower (Kd.R_newM (M := fun k_ => (w.heap.size ≤ k_)) ho0 (below_size (by repeat (first | (with_reducible first | exact HB.out | apply below_alloc | apply pw_below_drewN | apply below_drew1) | exact HB.out))) (fun k_ h_ => h_)) (below_size (by repeat (first | (with_reducible first | exact HB.out | apply below_alloc | apply pw_below_drewN | apply below_drew1) | exact HB.out)))); have n2_ := Aside0.mk (below_step (by repeat (first | (with_reducible first | exact HB.out | apply below_alloc | apply pw_below_drewN | apply below_drew1) | exact HB.out)) hb); clear HO_0; clear HB; have HO_0 := n0_; have HO112 := n1_; have HB := n2_; clear n0_ n1_ n2_; (try clear hb); (try clear hb2); (try clear hk); (try clear hi); (try clear ho0)))
      go_loopg [3, 4, 5, 6] kj1 (fun kq v3 v4 v5 v6 w' => ∃ (x3_2 : List Int) (x4_2 : List Int) (x5_2 : Int) (x6_2 : Int), v5 = .int .i64 x5_2 ∧ v6 = .int .i64 x6_2 ∧ Aside0 (longstopref12_write.l1 kq x0_1 x3_2 x4_2 x5_2 x6_2 = some r) ∧ Aside0 (kq ≤ kj1) ∧ Aside0 (Kd.V k59 59 w' w.heap.size (fun k_ => (P0_ k_ ∨ w.heap.size ≤ k_) ∧ some k_ ≠ (v3 : Value).ownBlock ∧ some k_ ≠ (v4 : Value).ownBlock) (.slice Ao16 x0_1.length co16) x0_1) ∧ Aside0 (Kd.R (Kd.int .u8) 5 w' w.heap.size (fun k_ => (w.heap.size ≤ k_) ∧ some k_ ≠ (v4 : Value).ownBlock) v3 x3_2) ∧ Aside0 (Kd.R (Kd.int .u8) 5 w' w.heap.size (fun k_ => (w.heap.size ≤ k_) ∧ some k_ ≠ (v3 : Value).ownBlock) v4 x4_2) ∧ Aside0 (Below w.heap.size w w'))
      case atStart => exact ⟨(t110), (([] : List Int)), (504), (0), (by first | rfl | (simp; done) | (simp [*]; done)), (by first | rfl | (simp; done) | (simp [*]; done)), H', ⟨Nat.le_refl _⟩, ⟨by (with_reducible repeat (first | apply Kd.V_alloc | apply Kd.V_drewN | apply Kd.V_drew)); exact Kd.V_mono HO_0.out (fun _ hk => ⟨hk.1, ⟨hk.2, (by simp [Value.ownBlock])⟩⟩)⟩, ⟨by (with_reducible repeat (first | apply Kd.R_alloc | apply Kd.R_drewN | apply Kd.R_drew)); exact Kd.R_mono HO112.out (fun _ hk => ⟨hk.1, (by simp [Value.ownBlock])⟩)⟩, ⟨by first | exact Kd.R_nil _ _ _ _ _ | exact Kd.N_nil _ _ _ _ _ | exact Kd.V_nil _ _ _ _ _ | exact Kd.Q_nil _ _ _ _ _ | exact Kd.S_nil _ _ _ _ _⟩, ⟨by repeat (first | (with_reducible first | exact HB.out | apply below_alloc | apply pw_below_drewN | apply below_drew1) | exact HB.out)⟩⟩
      case round =>
        clear H'
        try clear c1
        try clear p1
        try clear q1
        try clear hx1
        try clear p2
        try clear c3
        try clear c3b0
        try clear c3b1
        try clear c4
        try clear c5
        try clear c5b0
        try clear c6
        try clear c6b0
        try clear p6
        try clear q7
        try clear c8
        try clear c10
        try clear c10b0
        try clear p10
        try clear q10
        try clear hx10
        try clear c11
        try clear c11b0
        try clear c11b1
        try clear q13
        try clear hx104_0
        try clear hx104_1
        try clear p1
        try clear p10
        try clear p104
        try clear p2
        try clear p6
        try clear q1
        try clear q10
        try clear q104
        try clear q13
        try clear q7
        obtain ⟨x3_2, x4_2, x5_2, x6_2, rfl, rfl, HA, HK2, HO_0, HO_3, HO_4, HB⟩ := hrel
        cases gk with
        | zero => exact absurd HA.out (by simp [longstopref12_write.l1])
        | succ k2 =>
          have H := HA.out
          clear HA
          simp only [longstopref12_write.l1] at H
          by_cases c18 : x6_2 < (x0_1.length : Int)
          · rw [if_pos c18] at H
            have c18b0 : decide (x6_2 < (x0_1.length : Int)) = true := decide_eq_true c18
            clear c18
            by_cases c19 : 0 ≤ x6_2
            · rw [if_pos c19] at H
              have c19b0 : decide (0 ≤ x6_2) = true := decide_eq_true c19
              clear c19
              obtain ⟨bq20, hbq20⟩ : ∃ b_ : Bool, b_ = ((rd_T59 x0_1 x6_2).f1) := ⟨_, rfl⟩
              replace H : (if (bq20 = true) then ((longstopref12_two.f (wrap64 (x5_2 - (((rd_T59 x0_1 x6_2).f0).length : Int)))).bind fun t115 => (if x3_2.length + t115.length < 140737488355328 then ((some (x3_2 ++ t115 : List Int)).bind fun y118 => ((longstopref12_two.f (((rd_T59 x0_1 x6_2).f0).length : Int)).bind fun t122 => (if y118.length + t122.length < 140737488355328 then ((some (([] : List Int) : List Int)).bind fun y128 => (if y128.length + ((rd_T59 x0_1 x6_2).f0).length < 140737488355328 then ((some (y128 ++ ((rd_T59 x0_1 x6_2).f0) : List Int)).bind fun y132 => (if y132.length + x4_2.length < 140737488355328 then (longstopref12_write.l1 k2 x0_1 (y118 ++ t122) (y132 ++ x4_2) (wrap64 (x5_2 - (((rd_T59 x0_1 x6_2).f0).length : Int))) (wrap64 (x6_2 + 1))) else (none))) else (none))) else (none)))) else (none))) else ((some (([0, 0, 0, 0] : List Int) : List Int)).bind fun y138 => (if x3_2.length + y138.length < 140737488355328 then (longstopref12_write.l1 k2 x0_1 (x3_2 ++ y138) x4_2 x5_2 (wrap64 (x6_2 + 1))) else (none)))) = some r := by rw [← hbq20] at H; exact H
              have Nbq20 := Aside0.mk hbq20
              clear hbq20
              by_cases c21 : (bq20 = true)
              · subst c21
                have H1 : ((longstopref12_two.f (wrap64 (x5_2 - (((rd_T59 x0_1 x6_2).f0).length : Int)))).bind fun t115 => (if x3_2.length + t115.length < 140737488355328 then ((some (x3_2 ++ t115 : List Int)).bind fun y118 => ((longstopref12_two.f (((rd_T59 x0_1 x6_2).f0).length : Int)).bind fun t122 => (if y118.length + t122.length < 140737488355328 then ((some (([] : List Int) : List Int)).bind fun y128 => (if y128.length + ((rd_T59 x0_1 x6_2).f0).length < 140737488355328 then ((some (y128 ++ ((rd_T59 x0_1 x6_2).f0) : List Int)).bind fun y132 => (if y132.length + x4_2.length < 140737488355328 then (longstopref12_write.l1 k2 x0_1 (y118 ++ t122) (y132 ++ x4_2) (wrap64 (x5_2 - (((rd_T59 x0_1 x6_2).f0).length : Int))) (wrap64 (x6_2 + 1))) else (none))) else (none))) else (none)))) else (none))) = some r := by rw [if_pos rfl] at H; exact H
                clear H
                have H := H1
                clear H1
                replace H := Option.bind_eq_some_iff.mp H
                obtain ⟨t115, A220, H⟩ := H
                replace H : (if x3_2.length + t115.length < 140737488355328 then ((some (x3_2 ++ t115 : List Int)).bind fun y118 => ((longstopref12_two.f (((rd_T59 x0_1 x6_2).f0).length : Int)).bind fun t122 => (if y118.length + t122.length < 140737488355328 then ((some (([] : List Int) : List Int)).bind fun y128 => (if y128.length + ((rd_T59 x0_1 x6_2).f0).length < 140737488355328 then ((some (y128 ++ ((rd_T59 x0_1 x6_2).f0) : List Int)).bind fun y132 => (if y132.length + x4_2.length < 140737488355328 then (longstopref12_write.l1 k2 x0_1 (y118 ++ t122) (y132 ++ x4_2) (wrap64 (x5_2 - (((rd_T59 x0_1 x6_2).f0).length : Int))) (wrap64 (x6_2 + 1))) else (none))) else (none))) else (none)))) else (none)) = some r := H
                have A22 := Aside0.mk A220
                clear A220
                by_cases c23 : x3_2.length + t115.length < 140737488355328
                · rw [if_pos c23] at H
                  have LMc23 := Aside0.mk c23
                  clear c23
                  obtain ⟨y118, hy118⟩ : ∃ y_ : List Int, y_ = (x3_2 ++ t115) := ⟨_, rfl⟩
                  replace H : ((longstopref12_two.f (((rd_T59 x0_1 x6_2).f0).length : Int)).bind fun t122 => (if y118.length + t122.length < 140737488355328 then ((some (([] : List Int) : List Int)).bind fun y128 => (if y128.length + ((rd_T59 x0_1 x6_2).f0).length < 140737488355328 then ((some (y128 ++ ((rd_T59 x0_1 x6_2).f0) : List Int)).bind fun y132 => (if y132.length + x4_2.length < 140737488355328 then (longstopref12_write.l1 k2 x0_1 (y118 ++ t122) (y132 ++ x4_2) (wrap64 (x5_2 - (((rd_T59 x0_1 x6_2).f0).length : Int))) (wrap64 (x6_2 + 1))) else (none))) else (none))) else (none))) = some r := by first | (rw [hy118]; with_reducible exact H) | (have H2_ := (Option.bind_some _ _).symm.trans H; rw [hy118]; with_reducible exact H2_) | (have H2_ := (Option.bind_some _ _).symm.trans H; with_reducible exact H2_) | with_reducible exact H | (rw [hy118]; exact H) | exact H
                  have Ny118 := Aside0.mk hy118
                  clear hy118
                  replace H := Option.bind_eq_some_iff.mp H
                  obtain ⟨t122, A240, H⟩ := H
                  replace H : (if y118.length + t122.length < 140737488355328 then ((some (([] : List Int) : List Int)).bind fun y128 => (if y128.length + ((rd_T59 x0_1 x6_2).f0).length < 140737488355328 then ((some (y128 ++ ((rd_T59 x0_1 x6_2).f0) : List Int)).bind fun y132 => (if y132.length + x4_2.length < 140737488355328 then (longstopref12_write.l1 k2 x0_1 (y118 ++ t122) (y132 ++ x4_2) (wrap64 (x5_2 - (((rd_T59 x0_1 x6_2).f0).length : Int))) (wrap64 (x6_2 + 1))) else (none))) else (none))) else (none)) = some r := H
                  have A24 := Aside0.mk A240
                  clear A240
                  by_cases c25 : y118.length + t122.length < 140737488355328
                  · rw [if_pos c25] at H
                    have LMc25 := Aside0.mk c25
                    clear c25
                    obtain ⟨y125, hy125⟩ : ∃ y_ : List Int, y_ = (y118 ++ t122) := ⟨_, rfl⟩
                    replace H : ((some (([] : List Int) : List Int)).bind fun y128 => (if y128.length + ((rd_T59 x0_1 x6_2).f0).length < 140737488355328 then ((some (y128 ++ ((rd_T59 x0_1 x6_2).f0) : List Int)).bind fun y132 => (if y132.length + x4_2.length < 140737488355328 then (longstopref12_write.l1 k2 x0_1 y125 (y132 ++ x4_2) (wrap64 (x5_2 - (((rd_T59 x0_1 x6_2).f0).length : Int))) (wrap64 (x6_2 + 1))) else (none))) else (none))) = some r := by first | (rw [hy125]; with_reducible exact H) | (have H2_ := (Option.bind_some _ _).symm.trans H; rw [hy125]; with_reducible exact H2_) | (have H2_ := (Option.bind_some _ _).symm.trans H; with_reducible exact H2_) | with_reducible exact H | (rw [hy125]; exact H) | exact H
                    have Ny125 := Aside0.mk hy125
                    clear hy125
                    obtain ⟨y128, hy128⟩ : ∃ y_ : List Int, y_ = (([] : List Int)) := ⟨_, rfl⟩
                    replace H : (if y128.length + ((rd_T59 x0_1 x6_2).f0).length < 140737488355328 then ((some (y128 ++ ((rd_T59 x0_1 x6_2).f0) : List Int)).bind fun y132 => (if y132.length + x4_2.length < 140737488355328 then (longstopref12_write.l1 k2 x0_1 y125 (y132 ++ x4_2) (wrap64 (x5_2 - (((rd_T59 x0_1 x6_2).f0).length : Int))) (wrap64 (x6_2 + 1))) else (none))) else (none)) = some r := by first | (rw [hy128]; with_reducible exact H) | (have H2_ := (Option.bind_some _ _).symm.trans H; rw [hy128]; with_reducible exact H2_) | (have H2_ := (Option.bind_some _ _).symm.trans H; with_reducible exact H2_) | with_reducible exact H | (rw [hy128]; exact H) | exact H
                    have Ny128 := Aside0.mk hy128
                    clear hy128
                    by_cases c26 : y128.length + ((rd_T59 x0_1 x6_2).f0).length < 140737488355328
                    · rw [if_pos c26] at H
                      have LMc26 := Aside0.mk c26
                      clear c26
                      obtain ⟨y132, hy132⟩ : ∃ y_ : List Int, y_ = (y128 ++ ((rd_T59 x0_1 x6_2).f0)) := ⟨_, rfl⟩
                      replace H : (if y132.length + x4_2.length < 140737488355328 then (longstopref12_write.l1 k2 x0_1 y125 (y132 ++ x4_2) (wrap64 (x5_2 - (((rd_T59 x0_1 x6_2).f0).length : Int))) (wrap64 (x6_2 + 1))) else (none)) = some r := by first | (rw [hy132]; with_reducible exact H) | (have H2_ := (Option.bind_some _ _).symm.trans H; rw [hy132]; with_reducible exact H2_) | (have H2_ := (Option.bind_some _ _).symm.trans H; with_reducible exact H2_) | with_reducible exact H | (rw [hy132]; exact H) | exact H
                      have Ny132 := Aside0.mk hy132
                      clear hy132
                      by_cases c27 : y132.length + x4_2.length < 140737488355328
                      · rw [if_pos c27] at H
                        have LMc27 := Aside0.mk c27
                        clear c27
                        obtain ⟨y135, hy135⟩ : ∃ y_ : List Int, y_ = (y132 ++ x4_2) := ⟨_, rfl⟩
                        replace H : (longstopref12_write.l1 k2 x0_1 y125 y135 (wrap64 (x5_2 - (((rd_T59 x0_1 x6_2).f0).length : Int))) (wrap64 (x6_2 + 1))) = some r := by first | (rw [hy135]; with_reducible exact H) | (have H2_ := (Option.bind_some _ _).symm.trans H; rw [hy135]; with_reducible exact H2_) | (have H2_ := (Option.bind_some _ _).symm.trans H; with_reducible exact H2_) | with_reducible exact H | (rw [hy135]; exact H) | exact H
                        have Ny135 := Aside0.mk hy135
                        clear hy135
                        have H' := Aside0.mk H
                        clear H
                        have p113 : 0 ≤ (x6_2 : Int) := of_decide_eq_true (by first | (with_reducible assumption) | assumption)
                        have q113 : x6_2 < (x0_1.length : Int) := of_decide_eq_true (by first | (with_reducible assumption) | assumption)
                        obtain ⟨ad113, A113_0, c113_0, e113, hx113_0, hx113_1, hl113_0, hi113_0⟩ := at_T59 (Kd.V_reads' HO_0.out).2.2 x6_2 p113 q113
                        (try rw [← Nbq20.out] at hx113_1)
                        cases e113
                        obtain ⟨ce113, hce113, hMe113, hcc113⟩ := Kd.V_get HO_0.out z59 x6_2 p113 (by first | exact q113 | exact of_decide_eq_true (by first | (with_reducible assumption) | assumption) | (have e_ := (Kd.V_reads' HO_0.out).1; omega))
                        obtain ⟨ua113_0, uc113_0, rfl, ul113_0, ge113_0⟩ := k59_openF hMe113
                        have hv113_0 := hcc113 0 _ rfl
                        rw [Nat.add_zero] at hv113_0
                        replace hv113_0 := Option.some.inj (hv113_0.symm.trans hx113_0)
                        injection hv113_0 with hva_ hvn_ hvc_
                        rw [hva_] at ge113_0
                        rw [hvc_] at ul113_0
                        have HL113_0 := Aside0.mk (show Kd.V (Kd.int .u8) 5 _ w.heap.size _ _ ((rd_T59 x0_1 x6_2).f0) from Kd.V_mk ul113_0 ge113_0)
                        clear hva_ hvn_ hvc_ ge113_0 ul113_0
                        clear hcc113 hce113
                        have HR113_0 := Aside0.mk hi113_0
                        have HC113_0 := Aside0.mk hl113_0
                        clear hi113_0 hl113_0
                        replace p113 := eq_true p113
                        replace q113 := eq_true q113
                        have p114 : 0 ≤ (x6_2 : Int) := of_decide_eq_true (by first | (with_reducible assumption) | assumption)
                        have q114 : x6_2 < (x0_1.length : Int) := of_decide_eq_true (by first | (with_reducible assumption) | assumption)
                        obtain ⟨ad114, A114_0, c114_0, e114, hx114_0, hx114_1, hl114_0, hi114_0⟩ := at_T59 (Kd.V_reads' HO_0.out).2.2 x6_2 p114 q114
                        (try rw [← Nbq20.out] at hx114_1)
                        obtain rfl : ad113 = ad114 := (by injection e114)
                        obtain ⟨ce114, hce114, hMe114, hcc114⟩ := Kd.V_get HO_0.out z59 x6_2 p114 (by first | exact q114 | exact of_decide_eq_true (by first | (with_reducible assumption) | assumption) | (have e_ := (Kd.V_reads' HO_0.out).1; omega))
                        obtain ⟨ua114_0, uc114_0, rfl, ul114_0, ge114_0⟩ := k59_openF hMe114
                        have hv114_0 := hcc114 0 _ rfl
                        rw [Nat.add_zero] at hv114_0
                        replace hv114_0 := Option.some.inj (hv114_0.symm.trans hx114_0)
                        injection hv114_0 with hva_ hvn_ hvc_
                        rw [hva_] at ge114_0
                        rw [hvc_] at ul114_0
                        have HL114_0 := Aside0.mk (show Kd.V (Kd.int .u8) 5 _ w.heap.size _ _ ((rd_T59 x0_1 x6_2).f0) from Kd.V_mk ul114_0 ge114_0)
                        clear hva_ hvn_ hvc_ ge114_0 ul114_0
                        clear hcc114 hce114
                        have HR114_0 := Aside0.mk hi114_0
                        have HC114_0 := Aside0.mk hl114_0
                        clear hi114_0 hl114_0
                        replace p114 := eq_true p114
                        replace q114 := eq_true q114
                        have ea_ := Option.some.inj (hx113_0.symm.trans hx114_0)
                        injection ea_ with ea_ en_ ec_
                        subst ea_
                        subst ec_
                        clear en_
                        go_wp2_with fail
                        go_region_law (first
                          | (refine Go.Proofs.Ytbffeibcndbmgaa.Pg.step_dst 55 rfl ?_; refine goes_ (N := some 55) Try.func40 (by kernel_rfl) rfl #[.int .i64 (wrap64 (x5_2 - (((rd_T59 x0_1 x6_2).f0).length : Int)))] (by rfl) rfl rfl (by first | (go_simp; done) | (go_simp; with_reducible rfl)) ?_; (with_reducible refine (longstopref12_two.calls (wrap64 (x5_2 - (((rd_T59 x0_1 x6_2).f0).length : Int))) t115 _ A22.out).mono ?_); rintro e w28 ⟨v116, rfl, ho0, hb⟩; refine ⟨_, rfl, ?_⟩; have n0_ := Aside0.mk (Kd.V_elder' (by (with_reducible repeat (first | apply Kd.V_alloc | apply Kd.V_drewN | apply Kd.V_drew)); exact HO_0.out) (Kd.R_base ho0) hb); have n1_ := Aside0.mk (Kd.R_elder' (by (with_reducible repeat (first | apply Kd.R_alloc | apply Kd.R_drewN | apply Kd.R_drew)); exact HO_3.out) (Kd.R_base ho0) hb); have n2_ := Aside0.mk (Kd.R_elder' (by (with_reducible repeat (first | apply Kd.R_alloc | apply Kd.R_drewN | apply Kd.R_drew)); exact HO_4.out) (Kd.R_base ho0) hb); have n3_ := Aside0.mk (Kd.V_elder' (by (with_reducible repeat (first | apply Kd.V_alloc | apply Kd.V_drewN | apply Kd.V_drew)); exact HL113_0.out) (Kd.R_base ho0) hb); have n4_ := Aside0.mk (Kd.V_elder' (by (with_reducible repeat (first | apply Kd.V_alloc | apply Kd.V_drewN | apply Kd.V_drew)); exact HL114_0.out) (Kd.R_base ho0) hb); have n5_ := Aside0.mk (Kd.R_lower (Kd.R_new' (Kd.R_new' (Kd.R_newM (M := fun k_ => (w.heap.size ≤ k_)) ho0 (below_size (by repeat (first | (with_reducible first | exact HB.out | apply below_alloc | apply pw_below_drewN | apply below_drew1) | exact HB.out))) (fun k_ h_ => h_)) (Kd.R_lt (by (with_reducible repeat (first | apply Kd.R_alloc | apply Kd.R_drewN | apply Kd.R_drew)); exact HO_3.out))) (Kd.R_lt (by (with_reducible repeat (first | apply Kd.R_alloc | apply Kd.R_drewN | apply Kd.R_drew)); exact HO_4.out))) (below_size (by repeat (first | (with_reducible first | exact HB.out | apply below_alloc | apply pw_below_drewN | apply below_drew1) | exact HB.out)))); have n6_ := Aside0.mk (Kd.C_below (by repeat (first | (with_reducible exact HR113_0.out) | (with_reducible refine Kd.C_alloc ?_ _) | (with_reducible refine Kd.C_drewN ?_ _) | (with_reducible refine Kd.C_drew ?_) | exact HR113_0.out)) hb); have n7_ := Aside0.mk (Kd.C_below (by repeat (first | (with_reducible exact HR114_0.out) | (with_reducible refine Kd.C_alloc ?_ _) | (with_reducible refine Kd.C_drewN ?_ _) | (with_reducible refine Kd.C_drew ?_) | exact HR114_0.out)) hb); have n8_ := Aside0.mk (below_step (by repeat (first | (with_reducible first | exact HB.out | apply below_alloc | apply pw_below_drewN | apply below_drew1) | exact HB.out)) hb); clear HO_0; clear HO_3; clear HO_4; clear HL113_0; clear HL114_0; clear HR113_0; clear HR114_0; clear HB; have HO_0 := n0_; have HO_3 := n1_; have HO_4 := n2_; have HL113_0 := n3_; have HL114_0 := n4_; have HO117 := n5_; have HR113_0 := n6_; have HR114_0 := n7_; have HB := n8_; clear n0_ n1_ n2_ n3_ n4_ n5_ n6_ n7_ n8_; (try clear hb); (try clear hb2); (try clear hk); (try clear hi); (try clear ho0); obtain ⟨Ao30, co30, eo30⟩ := Kd.R_slice HO117.out; subst eo30; have p121 : 0 ≤ (x6_2 : Int) := of_decide_eq_true (by first | (with_reducible assumption) | assumption); have q121 : x6_2 < (x0_1.length : Int) := of_decide_eq_true (by first | (with_reducible assumption) | assumption); obtain ⟨ad121, A121_0, c121_0, e121, hx121_0, hx121_1, hl121_0, hi121_0⟩ := at_T59 (Kd.V_reads' HO_0.out).2.2 x6_2 p121 q121; (try rw [← Nbq20.out] at hx121_1); obtain rfl : ad113 = ad121 := (by injection e121); obtain ⟨ce121, hce121, hMe121, hcc121⟩ := Kd.V_get HO_0.out z59 x6_2 p121 (by first | exact q121 | exact of_decide_eq_true (by first | (with_reducible assumption) | assumption) | (have e_ := (Kd.V_reads' HO_0.out).1; omega)); obtain ⟨ua121_0, uc121_0, rfl, ul121_0, ge121_0⟩ := k59_openF hMe121; have hv121_0 := hcc121 0 _ rfl; rw [Nat.add_zero] at hv121_0; replace hv121_0 := Option.some.inj (hv121_0.symm.trans hx121_0); injection hv121_0 with hva_ hvn_ hvc_; rw [hva_] at ge121_0; rw [hvc_] at ul121_0; have HL121_0 := Aside0.mk (show Kd.V (Kd.int .u8) 5 _ w.heap.size _ _ ((rd_T59 x0_1 x6_2).f0) from Kd.V_mk ul121_0 ge121_0); clear hva_ hvn_ hvc_ ge121_0 ul121_0; clear hcc121 hce121; have HR121_0 := Aside0.mk hi121_0; have HC121_0 := Aside0.mk hl121_0; clear hi121_0 hl121_0; replace p121 := eq_true p121; replace q121 := eq_true q121)
                          | (refine Go.Proofs.Ytbffeibcndbmgaa.Pg.step_dst 56 rfl ?_; refine Kd.R_append_rows_step (Kd.int .u8) (w0 := w) w.heap.size (by rfl) (.tmp 53) (.tmp 55) 22 5 (.int .u8 0) 1 rfl Try.underlying22 info5 rfl (by decide) (by omega) u3 x3_2 t115 Ao30 t115.length co30 (fun k_ => (w.heap.size ≤ k_) ∧ some k_ ≠ (u4 : Value).ownBlock ∧ some k_ ≠ (.slice Ao30 t115.length co30 : Value).ownBlock) (fun _ => False) (by first | (go_simp; done) | (go_simp; with_reducible rfl)) (by first | (go_simp; done) | (go_simp; with_reducible rfl)) ?aO ?aR (fun _ _ h => h) (fun _ h => h.elim) ?aF ?aB ?aS ?aL ?_; (case aR => repeat (first | exact (Kd.R_reads' HO117.out).2.2 | (with_reducible refine Kd.C_alloc ?_ _) | (with_reducible refine Kd.C_drewN ?_ _) | (with_reducible refine Kd.C_drew ?_))); (case aB => exact (by repeat (first | (with_reducible first | exact HB.out | apply below_alloc | apply pw_below_drewN | apply below_drew1) | exact HB.out))); (case aF => exact (fun k_ hk => ⟨(Nat.le_trans (below_size (by repeat (first | (with_reducible first | exact HB.out | apply below_alloc | apply pw_below_drewN | apply below_drew1) | exact HB.out))) hk), Kd.fresh' (Kd.R_lt (by (with_reducible repeat (first | apply Kd.R_alloc | apply Kd.R_drewN | apply Kd.R_drew)); exact HO_4.out)) k_ hk, Kd.fresh' (Kd.R_lt (by (with_reducible repeat (first | apply Kd.R_alloc | apply Kd.R_drewN | apply Kd.R_drew)); exact HO117.out)) k_ hk⟩)); (case aO => exact (by (with_reducible repeat (first | apply Kd.R_alloc | apply Kd.R_drewN | apply Kd.R_drew)); exact Kd.R_mono HO_3.out (fun _ hk => ⟨hk.1.1, ⟨hk.1.2, hk.2⟩⟩))); (case aS => exact (below_size (by repeat (first | (with_reducible first | exact HB.out | apply below_alloc | apply pw_below_drewN | apply below_drew1) | exact HB.out)))); (case aL => have := LMc23.out; omega); intro v119 w29 ho hb hg hat; rw [← Ny118.out] at ho; have n0_ := Aside0.mk (Kd.V_afterv (ok := (fun k_ => (P0_ k_ ∨ w.heap.size ≤ k_) ∧ some k_ ≠ (u4 : Value).ownBlock ∧ some k_ ≠ (.slice Ao30 t115.length co30 : Value).ownBlock)) (by (with_reducible repeat (first | apply Kd.V_alloc | apply Kd.V_drewN | apply Kd.V_drew)); exact Kd.V_mono HO_0.out (fun _ hk => ⟨⟨hk.1.1, ⟨hk.1.2.2, hk.2⟩⟩, hk.1.2.1⟩)) hg hat); have n1_ := Aside0.mk (Kd.R_after (ok := (fun k_ => (w.heap.size ≤ k_) ∧ some k_ ≠ (.slice Ao30 t115.length co30 : Value).ownBlock)) (by (with_reducible repeat (first | apply Kd.R_alloc | apply Kd.R_drewN | apply Kd.R_drew)); exact Kd.R_mono HO_4.out (fun _ hk => ⟨⟨hk.1.1, hk.2⟩, hk.1.2⟩)) hg hat); have n2_ := Aside0.mk (Kd.V_afterv (ok := (fun k_ => (P0_ k_ ∨ w.heap.size ≤ k_) ∧ some k_ ≠ (u4 : Value).ownBlock ∧ some k_ ≠ (.slice Ao30 t115.length co30 : Value).ownBlock)) (by (with_reducible repeat (first | apply Kd.V_alloc | apply Kd.V_drewN | apply Kd.V_drew)); exact Kd.V_mono HL113_0.out (fun _ hk => ⟨⟨hk.1.1, ⟨hk.1.2.2, hk.2⟩⟩, hk.1.2.1⟩)) hg hat); have n3_ := Aside0.mk (Kd.V_afterv (ok := (fun k_ => (P0_ k_ ∨ w.heap.size ≤ k_) ∧ some k_ ≠ (u4 : Value).ownBlock ∧ some k_ ≠ (.slice Ao30 t115.length co30 : Value).ownBlock)) (by (with_reducible repeat (first | apply Kd.V_alloc | apply Kd.V_drewN | apply Kd.V_drew)); exact Kd.V_mono HL114_0.out (fun _ hk => ⟨⟨hk.1.1, ⟨hk.1.2.2, hk.2⟩⟩, hk.1.2.1⟩)) hg hat); have n4_ := Aside0.mk (Kd.R_after (ok := (fun k_ => (w.heap.size ≤ k_) ∧ some k_ ≠ (u4 : Value).ownBlock)) (by (with_reducible repeat (first | apply Kd.R_alloc | apply Kd.R_drewN | apply Kd.R_drew)); exact Kd.R_mono HO117.out (fun _ hk => ⟨⟨hk.1.1.1, hk.2⟩, hk.1.2⟩)) hg hat); have n5_ := Aside0.mk (hb); have n6_ := Aside0.mk (ho); clear HO_0; clear HO_4; clear HL113_0; clear HL114_0; clear HO117; clear HB; clear HO_3; have HO_0 := n0_; have HO_4 := n1_; have HL113_0 := n2_; have HL114_0 := n3_; have HO117 := n4_; have HB := n5_; have HO120 := n6_; clear n0_ n1_ n2_ n3_ n4_ n5_ n6_; clear ho hb hg hat; have p121 : 0 ≤ (x6_2 : Int) := of_decide_eq_true (by first | (with_reducible assumption) | assumption); have q121 : x6_2 < (x0_1.length : Int) := of_decide_eq_true (by first | (with_reducible assumption) | assumption); obtain ⟨ad121, A121_0, c121_0, e121, hx121_0, hx121_1, hl121_0, hi121_0⟩ := at_T59 (Kd.V_reads' HO_0.out).2.2 x6_2 p121 q121; (try rw [← Nbq20.out] at hx121_1); obtain rfl : ad113 = ad121 := (by injection e121); obtain ⟨ce121, hce121, hMe121, hcc121⟩ := Kd.V_get HO_0.out z59 x6_2 p121 (by first | exact q121 | exact of_decide_eq_true (by first | (with_reducible assumption) | assumption) | (have e_ := (Kd.V_reads' HO_0.out).1; omega)); obtain ⟨ua121_0, uc121_0, rfl, ul121_0, ge121_0⟩ := k59_openF hMe121; have hv121_0 := hcc121 0 _ rfl; rw [Nat.add_zero] at hv121_0; replace hv121_0 := Option.some.inj (hv121_0.symm.trans hx121_0); injection hv121_0 with hva_ hvn_ hvc_; rw [hva_] at ge121_0; rw [hvc_] at ul121_0; have HL121_0 := Aside0.mk (show Kd.V (Kd.int .u8) 5 _ w.heap.size _ _ ((rd_T59 x0_1 x6_2).f0) from Kd.V_mk ul121_0 ge121_0); clear hva_ hvn_ hvc_ ge121_0 ul121_0; clear hcc121 hce121; have HR121_0 := Aside0.mk hi121_0; have HC121_0 := Aside0.mk hl121_0; clear hi121_0 hl121_0; replace p121 := eq_true p121; replace q121 := eq_true q121)
                          | (refine Go.Proofs.Ytbffeibcndbmgaa.Pg.step_dst 63 rfl ?_; refine goes_ (N := some 63) Try.func40 (by kernel_rfl) rfl #[.int .i64 (((rd_T59 x0_1 x6_2).f0).length : Int)] (by rfl) rfl rfl (by first | (go_simp; done) | (go_simp; with_reducible rfl)) ?_; (with_reducible refine (longstopref12_two.calls (((rd_T59 x0_1 x6_2).f0).length : Int) t122 _ A24.out).mono ?_); rintro e w31 ⟨v123, rfl, ho0, hb⟩; refine ⟨_, rfl, ?_⟩; have n0_ := Aside0.mk (Kd.V_elder' (by (with_reducible repeat (first | apply Kd.V_alloc | apply Kd.V_drewN | apply Kd.V_drew)); exact HO_0.out) (Kd.R_base ho0) hb); have n1_ := Aside0.mk (Kd.R_elder' (by (with_reducible repeat (first | apply Kd.R_alloc | apply Kd.R_drewN | apply Kd.R_drew)); exact HO_4.out) (Kd.R_base ho0) hb); have n2_ := Aside0.mk (Kd.V_elder' (by (with_reducible repeat (first | apply Kd.V_alloc | apply Kd.V_drewN | apply Kd.V_drew)); exact HL113_0.out) (Kd.R_base ho0) hb); have n3_ := Aside0.mk (Kd.V_elder' (by (with_reducible repeat (first | apply Kd.V_alloc | apply Kd.V_drewN | apply Kd.V_drew)); exact HL114_0.out) (Kd.R_base ho0) hb); have n4_ := Aside0.mk (Kd.R_elder' (by (with_reducible repeat (first | apply Kd.R_alloc | apply Kd.R_drewN | apply Kd.R_drew)); exact HO117.out) (Kd.R_base ho0) hb); have n5_ := Aside0.mk (Kd.R_elder' (by (with_reducible repeat (first | apply Kd.R_alloc | apply Kd.R_drewN | apply Kd.R_drew)); exact HO120.out) (Kd.R_base ho0) hb); have n6_ := Aside0.mk (Kd.V_elder' (by (with_reducible repeat (first | apply Kd.V_alloc | apply Kd.V_drewN | apply Kd.V_drew)); exact HL121_0.out) (Kd.R_base ho0) hb); have n7_ := Aside0.mk (Kd.R_lower (Kd.R_new' (Kd.R_new' (Kd.R_new' (Kd.R_newM (M := fun k_ => (w.heap.size ≤ k_)) ho0 (below_size (by repeat (first | (with_reducible first | exact HB.out | apply below_alloc | apply pw_below_drewN | apply below_drew1) | exact HB.out))) (fun k_ h_ => h_)) (Kd.R_lt (by (with_reducible repeat (first | apply Kd.R_alloc | apply Kd.R_drewN | apply Kd.R_drew)); exact HO_4.out))) (Kd.R_lt (by (with_reducible repeat (first | apply Kd.R_alloc | apply Kd.R_drewN | apply Kd.R_drew)); exact HO117.out))) (Kd.R_lt (by (with_reducible repeat (first | apply Kd.R_alloc | apply Kd.R_drewN | apply Kd.R_drew)); exact HO120.out))) (below_size (by repeat (first | (with_reducible first | exact HB.out | apply below_alloc | apply pw_below_drewN | apply below_drew1) | exact HB.out)))); have n8_ := Aside0.mk (Kd.C_below (by repeat (first | (with_reducible exact HR121_0.out) | (with_reducible refine Kd.C_alloc ?_ _) | (with_reducible refine Kd.C_drewN ?_ _) | (with_reducible refine Kd.C_drew ?_) | exact HR121_0.out)) hb); have n9_ := Aside0.mk (below_step (by repeat (first | (with_reducible first | exact HB.out | apply below_alloc | apply pw_below_drewN | apply below_drew1) | exact HB.out)) hb); clear HO_0; clear HO_4; clear HL113_0; clear HL114_0; clear HO117; clear HO120; clear HL121_0; clear HR121_0; clear HB; have HO_0 := n0_; have HO_4 := n1_; have HL113_0 := n2_; have HL114_0 := n3_; have HO117 := n4_; have HO120 := n5_; have HL121_0 := n6_; have HO124 := n7_; have HR121_0 := n8_; have HB := n9_; clear n0_ n1_ n2_ n3_ n4_ n5_ n6_ n7_ n8_ n9_; (try clear hb); (try clear hb2); (try clear hk); (try clear hi); (try clear ho0); obtain ⟨Ao33, co33, eo33⟩ := Kd.R_slice HO124.out; subst eo33)
                          | (refine Go.Proofs.Ytbffeibcndbmgaa.Pg.step_dst 64 rfl ?_; refine Kd.R_append_rows_step (Kd.int .u8) (w0 := w) w.heap.size (by rfl) (.tmp 56) (.tmp 63) 22 5 (.int .u8 0) 1 rfl Try.underlying22 info5 rfl (by decide) (by omega) v119 y118 t122 Ao33 t122.length co33 (fun k_ => (w.heap.size ≤ k_) ∧ some k_ ≠ (u4 : Value).ownBlock ∧ some k_ ≠ (.slice Ao30 t115.length co30 : Value).ownBlock ∧ some k_ ≠ (.slice Ao33 t122.length co33 : Value).ownBlock) (fun _ => False) (by first | (go_simp; done) | (go_simp; with_reducible rfl)) (by first | (go_simp; done) | (go_simp; with_reducible rfl)) ?aO ?aR (fun _ _ h => h) (fun _ h => h.elim) ?aF ?aB ?aS ?aL ?_; (case aR => repeat (first | exact (Kd.R_reads' HO124.out).2.2 | (with_reducible refine Kd.C_alloc ?_ _) | (with_reducible refine Kd.C_drewN ?_ _) | (with_reducible refine Kd.C_drew ?_))); (case aB => exact (by repeat (first | (with_reducible first | exact HB.out | apply below_alloc | apply pw_below_drewN | apply below_drew1) | exact HB.out))); (case aF => exact (fun k_ hk => ⟨(Nat.le_trans (below_size (by repeat (first | (with_reducible first | exact HB.out | apply below_alloc | apply pw_below_drewN | apply below_drew1) | exact HB.out))) hk), Kd.fresh' (Kd.R_lt (by (with_reducible repeat (first | apply Kd.R_alloc | apply Kd.R_drewN | apply Kd.R_drew)); exact HO_4.out)) k_ hk, Kd.fresh' (Kd.R_lt (by (with_reducible repeat (first | apply Kd.R_alloc | apply Kd.R_drewN | apply Kd.R_drew)); exact HO117.out)) k_ hk, Kd.fresh' (Kd.R_lt (by (with_reducible repeat (first | apply Kd.R_alloc | apply Kd.R_drewN | apply Kd.R_drew)); exact HO124.out)) k_ hk⟩)); (case aO => exact (by (with_reducible repeat (first | apply Kd.R_alloc | apply Kd.R_drewN | apply Kd.R_drew)); exact Kd.R_mono HO120.out (fun _ hk => ⟨hk.1.1, ⟨hk.1.2.1, ⟨hk.1.2.2, hk.2⟩⟩⟩))); (case aS => exact (below_size (by repeat (first | (with_reducible first | exact HB.out | apply below_alloc | apply pw_below_drewN | apply below_drew1) | exact HB.out)))); (case aL => have := LMc25.out; omega); intro v126 w32 ho hb hg hat; rw [← Ny125.out] at ho; have n0_ := Aside0.mk (Kd.V_afterv (ok := (fun k_ => (P0_ k_ ∨ w.heap.size ≤ k_) ∧ some k_ ≠ (u4 : Value).ownBlock ∧ some k_ ≠ (.slice Ao30 t115.length co30 : Value).ownBlock ∧ some k_ ≠ (.slice Ao33 t122.length co33 : Value).ownBlock)) (by (with_reducible repeat (first | apply Kd.V_alloc | apply Kd.V_drewN | apply Kd.V_drew)); exact Kd.V_mono HO_0.out (fun _ hk => ⟨⟨hk.1.1.1, ⟨hk.1.1.2.1, ⟨hk.1.1.2.2, hk.2⟩⟩⟩, hk.1.2⟩)) hg hat); have n1_ := Aside0.mk (Kd.R_after (ok := (fun k_ => (w.heap.size ≤ k_) ∧ some k_ ≠ (.slice Ao30 t115.length co30 : Value).ownBlock ∧ some k_ ≠ (.slice Ao33 t122.length co33 : Value).ownBlock)) (by (with_reducible repeat (first | apply Kd.R_alloc | apply Kd.R_drewN | apply Kd.R_drew)); exact Kd.R_mono HO_4.out (fun _ hk => ⟨⟨hk.1.1.1, ⟨hk.1.1.2, hk.2⟩⟩, hk.1.2⟩)) hg hat); have n2_ := Aside0.mk (Kd.V_afterv (ok := (fun k_ => (P0_ k_ ∨ w.heap.size ≤ k_) ∧ some k_ ≠ (u4 : Value).ownBlock ∧ some k_ ≠ (.slice Ao30 t115.length co30 : Value).ownBlock ∧ some k_ ≠ (.slice Ao33 t122.length co33 : Value).ownBlock)) (by (with_reducible repeat (first | apply Kd.V_alloc | apply Kd.V_drewN | apply Kd.V_drew)); exact Kd.V_mono HL113_0.out (fun _ hk => ⟨⟨hk.1.1.1, ⟨hk.1.1.2.1, ⟨hk.1.1.2.2, hk.2⟩⟩⟩, hk.1.2⟩)) hg hat); have n3_ := Aside0.mk (Kd.V_afterv (ok := (fun k_ => (P0_ k_ ∨ w.heap.size ≤ k_) ∧ some k_ ≠ (u4 : Value).ownBlock ∧ some k_ ≠ (.slice Ao30 t115.length co30 : Value).ownBlock ∧ some k_ ≠ (.slice Ao33 t122.length co33 : Value).ownBlock)) (by (with_reducible repeat (first | apply Kd.V_alloc | apply Kd.V_drewN | apply Kd.V_drew)); exact Kd.V_mono HL114_0.out (fun _ hk => ⟨⟨hk.1.1.1, ⟨hk.1.1.2.1, ⟨hk.1.1.2.2, hk.2⟩⟩⟩, hk.1.2⟩)) hg hat); have n4_ := Aside0.mk (Kd.R_after (ok := (fun k_ => (w.heap.size ≤ k_) ∧ some k_ ≠ (u4 : Value).ownBlock ∧ some k_ ≠ (.slice Ao33 t122.length co33 : Value).ownBlock)) (by (with_reducible repeat (first | apply Kd.R_alloc | apply Kd.R_drewN | apply Kd.R_drew)); exact Kd.R_mono HO117.out (fun _ hk => ⟨⟨hk.1.1.1, ⟨hk.1.1.2, hk.2⟩⟩, hk.1.2⟩)) hg hat); have n5_ := Aside0.mk (Kd.V_afterv (ok := (fun k_ => (P0_ k_ ∨ w.heap.size ≤ k_) ∧ some k_ ≠ (u4 : Value).ownBlock ∧ some k_ ≠ (.slice Ao30 t115.length co30 : Value).ownBlock ∧ some k_ ≠ (.slice Ao33 t122.length co33 : Value).ownBlock)) (by (with_reducible repeat (first | apply Kd.V_alloc | apply Kd.V_drewN | apply Kd.V_drew)); exact Kd.V_mono HL121_0.out (fun _ hk => ⟨⟨hk.1.1.1, ⟨hk.1.1.2.1, ⟨hk.1.1.2.2, hk.2⟩⟩⟩, hk.1.2⟩)) hg hat); have n6_ := Aside0.mk (Kd.R_after (ok := (fun k_ => (w.heap.size ≤ k_) ∧ some k_ ≠ (u4 : Value).ownBlock ∧ some k_ ≠ (.slice Ao30 t115.length co30 : Value).ownBlock)) (by (with_reducible repeat (first | apply Kd.R_alloc | apply Kd.R_drewN | apply Kd.R_drew)); exact Kd.R_mono HO124.out (fun _ hk => ⟨⟨hk.1.1.1.1, ⟨hk.1.1.2, hk.1.2⟩⟩, hk.2⟩)) hg hat); have n7_ := Aside0.mk (hb); have n8_ := Aside0.mk (ho); clear HO_0; clear HO_4; clear HL113_0; clear HL114_0; clear HO117; clear HL121_0; clear HO124; clear HB; clear HO120; have HO_0 := n0_; have HO_4 := n1_; have HL113_0 := n2_; have HL114_0 := n3_; have HO117 := n4_; have HL121_0 := n5_; have HO124 := n6_; have HB := n7_; have HO127 := n8_; clear n0_ n1_ n2_ n3_ n4_ n5_ n6_ n7_ n8_; clear ho hb hg hat))
                        all_goals
                          go_wp2_with (first | ((with_reducible refine gate_dst (N := 65) rfl ?_); (try (refine gate_guard (by rfl) ?_; dsimp only)); refine Kd.R_lit (Kd.int .u8) _ 5 ?hg (N := 65) ?hd (xs := ([] : List Int)) (inner := []) (ok := fun _ => True) (okp := fun _ => True) ?hr ?hp (fun _ hk => hk) trivial (Below.refl _ _) (Nat.le_refl _) (by simp) ?_; (case hd => rfl); (case hg => rfl); (case hr => first | (go_simp; done) | (go_simp; rfl)); (case hp => exact (Reps.none _ _)); intro v129 w34 ho35 hb hg_ hnew_; clear hg_ hnew_; (first | rw [← Ny128.out] at ho35 | (simp only [Int.reduceToNat] at ho35; rw [← Ny128.out] at ho35)); have n0_ := Aside0.mk (Kd.V_elder' (by (with_reducible repeat (first | apply Kd.V_alloc | apply Kd.V_drewN | apply Kd.V_drew)); exact HO_0.out) (Kd.R_base ho35) hb); have n1_ := Aside0.mk (Kd.R_elder' (by (with_reducible repeat (first | apply Kd.R_alloc | apply Kd.R_drewN | apply Kd.R_drew)); exact HO_4.out) (Kd.R_base ho35) hb); have n2_ := Aside0.mk (Kd.V_elder' (by (with_reducible repeat (first | apply Kd.V_alloc | apply Kd.V_drewN | apply Kd.V_drew)); exact HL113_0.out) (Kd.R_base ho35) hb); have n3_ := Aside0.mk (Kd.V_elder' (by (with_reducible repeat (first | apply Kd.V_alloc | apply Kd.V_drewN | apply Kd.V_drew)); exact HL114_0.out) (Kd.R_base ho35) hb); have n4_ := Aside0.mk (Kd.R_elder' (by (with_reducible repeat (first | apply Kd.R_alloc | apply Kd.R_drewN | apply Kd.R_drew)); exact HO117.out) (Kd.R_base ho35) hb); have n5_ := Aside0.mk (Kd.V_elder' (by (with_reducible repeat (first | apply Kd.V_alloc | apply Kd.V_drewN | apply Kd.V_drew)); exact HL121_0.out) (Kd.R_base ho35) hb); have n6_ := Aside0.mk (Kd.R_elder' (by (with_reducible repeat (first | apply Kd.R_alloc | apply Kd.R_drewN | apply Kd.R_drew)); exact HO124.out) (Kd.R_base ho35) hb); have n7_ := Aside0.mk (Kd.R_elder' (by (with_reducible repeat (first | apply Kd.R_alloc | apply Kd.R_drewN | apply Kd.R_drew)); exact HO127.out) (Kd.R_base ho35) hb); have n8_ := Aside0.mk (Kd.R_lower (Kd.R_new' (Kd.R_new' (Kd.R_new' (Kd.R_new' (Kd.R_newM (M := fun k_ => (w.heap.size ≤ k_)) ho35 (below_size (by repeat (first | (with_reducible first | exact HB.out | apply below_alloc | apply pw_below_drewN | apply below_drew1) | exact HB.out))) (fun k_ h_ => h_)) (Kd.R_lt (by (with_reducible repeat (first | apply Kd.R_alloc | apply Kd.R_drewN | apply Kd.R_drew)); exact HO_4.out))) (Kd.R_lt (by (with_reducible repeat (first | apply Kd.R_alloc | apply Kd.R_drewN | apply Kd.R_drew)); exact HO117.out))) (Kd.R_lt (by (with_reducible repeat (first | apply Kd.R_alloc | apply Kd.R_drewN | apply Kd.R_drew)); exact HO124.out))) (Kd.R_lt (by (with_reducible repeat (first | apply Kd.R_alloc | apply Kd.R_drewN | apply Kd.R_drew)); exact HO127.out))) (below_size (by repeat (first | (with_reducible first | exact HB.out | apply below_alloc | apply pw_below_drewN | apply below_drew1) | exact HB.out)))); have n9_ := Aside0.mk (below_step (by repeat (first | (with_reducible first | exact HB.out | apply below_alloc | apply pw_below_drewN | apply below_drew1) | exact HB.out)) hb); clear HO_0; clear HO_4; clear HL113_0; clear HL114_0; clear HO117; clear HL121_0; clear HO124; clear HO127; clear HB; have HO_0 := n0_; have HO_4 := n1_; have HL113_0 := n2_; have HL114_0 := n3_; have HO117 := n4_; have HL121_0 := n5_; have HO124 := n6_; have HO127 := n7_; have HO130 := n8_; have HB := n9_; clear n0_ n1_ n2_ n3_ n4_ n5_ n6_ n7_ n8_ n9_; clear hb ho35; have p131 : 0 ≤ (x6_2 : Int) := of_decide_eq_true (by first | (with_reducible assumption) | assumption); have q131 : x6_2 < (x0_1.length : Int) := of_decide_eq_true (by first | (with_reducible assumption) | assumption); obtain ⟨ad131, A131_0, c131_0, e131, hx131_0, hx131_1, hl131_0, hi131_0⟩ := at_T59 (Kd.V_reads' HO_0.out).2.2 x6_2 p131 q131; (try rw [← Nbq20.out] at hx131_1); obtain rfl : ad113 = ad131 := (by injection e131); obtain ⟨ce131, hce131, hMe131, hcc131⟩ := Kd.V_get HO_0.out z59 x6_2 p131 (by first | exact q131 | exact of_decide_eq_true (by first | (with_reducible assumption) | assumption) | (have e_ := (Kd.V_reads' HO_0.out).1; omega)); obtain ⟨ua131_0, uc131_0, rfl, ul131_0, ge131_0⟩ := k59_openF hMe131; have hv131_0 := hcc131 0 _ rfl; rw [Nat.add_zero] at hv131_0; replace hv131_0 := Option.some.inj (hv131_0.symm.trans hx131_0); injection hv131_0 with hva_ hvn_ hvc_; rw [hva_] at ge131_0; rw [hvc_] at ul131_0; have HL131_0 := Aside0.mk (show Kd.V (Kd.int .u8) 5 _ w.heap.size _ _ ((rd_T59 x0_1 x6_2).f0) from Kd.V_mk ul131_0 ge131_0); clear hva_ hvn_ hvc_ ge131_0 ul131_0; clear hcc131 hce131; have HR131_0 := Aside0.mk hi131_0; have HC131_0 := Aside0.mk hl131_0; clear hi131_0 hl131_0; replace p131 := eq_true p131; replace q131 := eq_true q131) | ((with_reducible refine gate_builtin (b := .append) (xs := #[.tmp 65, .tmp 70]) rfl ?_); (try (refine gate_guard (by rfl) ?_; dsimp only)); at_builtin; refine Kd.R_append_rows (Kd.int .u8) (w0 := w) w.heap.size rfl (.tmp 65) (.tmp 70) 22 5 (.int .u8 0) 1 rfl Try.underlying22 info5 rfl (by decide) (by omega) v129 y128 ((rd_T59 x0_1 x6_2).f0) _ _ _ (fun k_ => (w.heap.size ≤ k_) ∧ some k_ ≠ (u4 : Value).ownBlock ∧ some k_ ≠ (.slice Ao30 t115.length co30 : Value).ownBlock ∧ some k_ ≠ (.slice Ao33 t122.length co33 : Value).ownBlock ∧ some k_ ≠ (v126 : Value).ownBlock) (fun _ => False) rfl rfl ?aO ?aR (fun _ _ h => h) (fun _ h => h.elim) ?aF ?aB ?aS ?aL ?_; (case aR => repeat (first | exact (by repeat (first | (with_reducible exact HR131_0.out) | (with_reducible refine Kd.C_alloc ?_ _) | (with_reducible refine Kd.C_drewN ?_ _) | (with_reducible refine Kd.C_drew ?_) | exact HR131_0.out)) | (with_reducible refine Kd.C_alloc ?_ _) | (with_reducible refine Kd.C_drewN ?_ _) | (with_reducible refine Kd.C_drew ?_))); (case aB => exact (by repeat (first | (with_reducible first | exact HB.out | apply below_alloc | apply pw_below_drewN | apply below_drew1) | exact HB.out))); (case aF => exact (fun k_ hk => ⟨(Nat.le_trans (below_size (by repeat (first | (with_reducible first | exact HB.out | apply below_alloc | apply pw_below_drewN | apply below_drew1) | exact HB.out))) hk), Kd.fresh' (Kd.R_lt (by (with_reducible repeat (first | apply Kd.R_alloc | apply Kd.R_drewN | apply Kd.R_drew)); exact HO_4.out)) k_ hk, Kd.fresh' (Kd.R_lt (by (with_reducible repeat (first | apply Kd.R_alloc | apply Kd.R_drewN | apply Kd.R_drew)); exact HO117.out)) k_ hk, Kd.fresh' (Kd.R_lt (by (with_reducible repeat (first | apply Kd.R_alloc | apply Kd.R_drewN | apply Kd.R_drew)); exact HO124.out)) k_ hk, Kd.fresh' (Kd.R_lt (by (with_reducible repeat (first | apply Kd.R_alloc | apply Kd.R_drewN | apply Kd.R_drew)); exact HO127.out)) k_ hk⟩)); (case aO => exact (by (with_reducible repeat (first | apply Kd.R_alloc | apply Kd.R_drewN | apply Kd.R_drew)); exact Kd.R_mono HO130.out (fun _ hk => ⟨hk.1.1.1.1.1, ⟨hk.1.1.1.2, ⟨hk.1.1.2, ⟨hk.1.2, hk.2⟩⟩⟩⟩))); (case aS => exact (below_size (by repeat (first | (with_reducible first | exact HB.out | apply below_alloc | apply pw_below_drewN | apply below_drew1) | exact HB.out)))); (case aL => have := LMc26.out; omega); intro v133 w36 ho hb hg hat; rw [← Ny132.out] at ho; have n0_ := Aside0.mk (Kd.V_afterv (ok := (fun k_ => (P0_ k_ ∨ w.heap.size ≤ k_) ∧ some k_ ≠ (u4 : Value).ownBlock ∧ some k_ ≠ (.slice Ao30 t115.length co30 : Value).ownBlock ∧ some k_ ≠ (.slice Ao33 t122.length co33 : Value).ownBlock ∧ some k_ ≠ (v126 : Value).ownBlock)) (by (with_reducible repeat (first | apply Kd.V_alloc | apply Kd.V_drewN | apply Kd.V_drew)); exact Kd.V_mono HO_0.out (fun _ hk => ⟨⟨hk.1.1.1, ⟨hk.1.1.2.1, ⟨hk.1.1.2.2.1, ⟨hk.1.1.2.2.2, hk.1.2⟩⟩⟩⟩, hk.2⟩)) hg hat); have n1_ := Aside0.mk (Kd.R_after (ok := (fun k_ => (w.heap.size ≤ k_) ∧ some k_ ≠ (.slice Ao30 t115.length co30 : Value).ownBlock ∧ some k_ ≠ (.slice Ao33 t122.length co33 : Value).ownBlock ∧ some k_ ≠ (v126 : Value).ownBlock)) (by (with_reducible repeat (first | apply Kd.R_alloc | apply Kd.R_drewN | apply Kd.R_drew)); exact Kd.R_mono HO_4.out (fun _ hk => ⟨⟨hk.1.1.1, ⟨hk.1.1.2.1, ⟨hk.1.1.2.2, hk.1.2⟩⟩⟩, hk.2⟩)) hg hat); have n2_ := Aside0.mk (Kd.V_afterv (ok := (fun k_ => (P0_ k_ ∨ w.heap.size ≤ k_) ∧ some k_ ≠ (u4 : Value).ownBlock ∧ some k_ ≠ (.slice Ao30 t115.length co30 : Value).ownBlock ∧ some k_ ≠ (.slice Ao33 t122.length co33 : Value).ownBlock ∧ some k_ ≠ (v126 : Value).ownBlock)) (by (with_reducible repeat (first | apply Kd.V_alloc | apply Kd.V_drewN | apply Kd.V_drew)); exact Kd.V_mono HL113_0.out (fun _ hk => ⟨⟨hk.1.1.1, ⟨hk.1.1.2.1, ⟨hk.1.1.2.2.1, ⟨hk.1.1.2.2.2, hk.1.2⟩⟩⟩⟩, hk.2⟩)) hg hat); have n3_ := Aside0.mk (Kd.V_afterv (ok := (fun k_ => (P0_ k_ ∨ w.heap.size ≤ k_) ∧ some k_ ≠ (u4 : Value).ownBlock ∧ some k_ ≠ (.slice Ao30 t115.length co30 : Value).ownBlock ∧ some k_ ≠ (.slice Ao33 t122.length co33 : Value).ownBlock ∧ some k_ ≠ (v126 : Value).ownBlock)) (by (with_reducible repeat (first | apply Kd.V_alloc | apply Kd.V_drewN | apply Kd.V_drew)); exact Kd.V_mono HL114_0.out (fun _ hk => ⟨⟨hk.1.1.1, ⟨hk.1.1.2.1, ⟨hk.1.1.2.2.1, ⟨hk.1.1.2.2.2, hk.1.2⟩⟩⟩⟩, hk.2⟩)) hg hat); have n4_ := Aside0.mk (Kd.R_after (ok := (fun k_ => (w.heap.size ≤ k_) ∧ some k_ ≠ (u4 : Value).ownBlock ∧ some k_ ≠ (.slice Ao33 t122.length co33 : Value).ownBlock ∧ some k_ ≠ (v126 : Value).ownBlock)) (by (with_reducible repeat (first | apply Kd.R_alloc | apply Kd.R_drewN | apply Kd.R_drew)); exact Kd.R_mono HO117.out (fun _ hk => ⟨⟨hk.1.1.1, ⟨hk.1.1.2.1, ⟨hk.1.1.2.2, hk.1.2⟩⟩⟩, hk.2⟩)) hg hat); have n5_ := Aside0.mk (Kd.V_afterv (ok := (fun k_ => (P0_ k_ ∨ w.heap.size ≤ k_) ∧ some k_ ≠ (u4 : Value).ownBlock ∧ some k_ ≠ (.slice Ao30 t115.length co30 : Value).ownBlock ∧ some k_ ≠ (.slice Ao33 t122.length co33 : Value).ownBlock ∧ some k_ ≠ (v126 : Value).ownBlock)) (by (with_reducible repeat (first | apply Kd.V_alloc | apply Kd.V_drewN | apply Kd.V_drew)); exact Kd.V_mono HL121_0.out (fun _ hk => ⟨⟨hk.1.1.1, ⟨hk.1.1.2.1, ⟨hk.1.1.2.2.1, ⟨hk.1.1.2.2.2, hk.1.2⟩⟩⟩⟩, hk.2⟩)) hg hat); have n6_ := Aside0.mk (Kd.R_after (ok := (fun k_ => (w.heap.size ≤ k_) ∧ some k_ ≠ (u4 : Value).ownBlock ∧ some k_ ≠ (.slice Ao30 t115.length co30 : Value).ownBlock ∧ some k_ ≠ (v126 : Value).ownBlock)) (by (with_reducible repeat (first | apply Kd.R_alloc | apply Kd.R_drewN | apply Kd.R_drew)); exact Kd.R_mono HO124.out (fun _ hk => ⟨⟨hk.1.1.1, ⟨hk.1.1.2.1, ⟨hk.1.1.2.2, hk.1.2⟩⟩⟩, hk.2⟩)) hg hat); have n7_ := Aside0.mk (Kd.R_after (ok := (fun k_ => (w.heap.size ≤ k_) ∧ some k_ ≠ (u4 : Value).ownBlock ∧ some k_ ≠ (.slice Ao30 t115.length co30 : Value).ownBlock ∧ some k_ ≠ (.slice Ao33 t122.length co33 : Value).ownBlock)) (by (with_reducible repeat (first | apply Kd.R_alloc | apply Kd.R_drewN | apply Kd.R_drew)); exact HO127.out) hg hat); have n8_ := Aside0.mk (Kd.V_afterv (ok := (fun k_ => (P0_ k_ ∨ w.heap.size ≤ k_) ∧ some k_ ≠ (u4 : Value).ownBlock ∧ some k_ ≠ (.slice Ao30 t115.length co30 : Value).ownBlock ∧ some k_ ≠ (.slice Ao33 t122.length co33 : Value).ownBlock ∧ some k_ ≠ (v126 : Value).ownBlock)) (by (with_reducible repeat (first | apply Kd.V_alloc | apply Kd.V_drewN | apply Kd.V_drew)); exact Kd.V_mono HL131_0.out (fun _ hk => ⟨⟨hk.1.1.1, ⟨hk.1.1.2.1, ⟨hk.1.1.2.2.1, ⟨hk.1.1.2.2.2, hk.1.2⟩⟩⟩⟩, hk.2⟩)) hg hat); have n9_ := Aside0.mk (hb); have n10_ := Aside0.mk (ho); clear HO_0; clear HO_4; clear HL113_0; clear HL114_0; clear HO117; clear HL121_0; clear HO124; clear HO127; clear HL131_0; clear HB; clear HO130; have HO_0 := n0_; have HO_4 := n1_; have HL113_0 := n2_; have HL114_0 := n3_; have HO117 := n4_; have HL121_0 := n5_; have HO124 := n6_; have HO127 := n7_; have HL131_0 := n8_; have HB := n9_; have HO134 := n10_; clear n0_ n1_ n2_ n3_ n4_ n5_ n6_ n7_ n8_ n9_ n10_; clear ho hb hg hat; obtain ⟨Ao38, co38, eo38⟩ := Kd.R_slice HO_4.out; subst eo38) | ((with_reducible refine gate_builtin (b := .append) (xs := #[.tmp 71, .tmp 72]) rfl ?_); (try (refine gate_guard (by rfl) ?_; dsimp only)); at_builtin; refine Kd.R_append_rows (Kd.int .u8) (w0 := w) w.heap.size rfl (.tmp 71) (.tmp 72) 22 5 (.int .u8 0) 1 rfl Try.underlying22 info5 rfl (by decide) (by omega) v133 y132 x4_2 _ _ _ (fun k_ => (w.heap.size ≤ k_) ∧ some k_ ≠ (.slice Ao38 x4_2.length co38 : Value).ownBlock ∧ some k_ ≠ (.slice Ao30 t115.length co30 : Value).ownBlock ∧ some k_ ≠ (.slice Ao33 t122.length co33 : Value).ownBlock ∧ some k_ ≠ (v126 : Value).ownBlock) (fun _ => False) rfl rfl ?aO ?aR (fun _ _ h => h) (fun _ h => h.elim) ?aF ?aB ?aS ?aL ?_; (case aR => repeat (first | exact (Kd.R_reads' HO_4.out).2.2 | (with_reducible refine Kd.C_alloc ?_ _) | (with_reducible refine Kd.C_drewN ?_ _) | (with_reducible refine Kd.C_drew ?_))); (case aB => exact (by repeat (first | (with_reducible first | exact HB.out | apply below_alloc | apply pw_below_drewN | apply below_drew1) | exact HB.out))); (case aF => exact (fun k_ hk => ⟨(Nat.le_trans (below_size (by repeat (first | (with_reducible first | exact HB.out | apply below_alloc | apply pw_below_drewN | apply below_drew1) | exact HB.out))) hk), Kd.fresh' (Kd.R_lt (by (with_reducible repeat (first | apply Kd.R_alloc | apply Kd.R_drewN | apply Kd.R_drew)); exact HO_4.out)) k_ hk, Kd.fresh' (Kd.R_lt (by (with_reducible repeat (first | apply Kd.R_alloc | apply Kd.R_drewN | apply Kd.R_drew)); exact HO117.out)) k_ hk, Kd.fresh' (Kd.R_lt (by (with_reducible repeat (first | apply Kd.R_alloc | apply Kd.R_drewN | apply Kd.R_drew)); exact HO124.out)) k_ hk, Kd.fresh' (Kd.R_lt (by (with_reducible repeat (first | apply Kd.R_alloc | apply Kd.R_drewN | apply Kd.R_drew)); exact HO127.out)) k_ hk⟩)); (case aO => exact (by (with_reducible repeat (first | apply Kd.R_alloc | apply Kd.R_drewN | apply Kd.R_drew)); exact HO134.out)); (case aS => exact (below_size (by repeat (first | (with_reducible first | exact HB.out | apply below_alloc | apply pw_below_drewN | apply below_drew1) | exact HB.out)))); (case aL => have := LMc27.out; omega); intro v136 w37 ho hb hg hat; rw [← Ny135.out] at ho; have n0_ := Aside0.mk (Kd.V_afterv (ok := (fun k_ => (P0_ k_ ∨ w.heap.size ≤ k_) ∧ some k_ ≠ (.slice Ao38 x4_2.length co38 : Value).ownBlock ∧ some k_ ≠ (.slice Ao30 t115.length co30 : Value).ownBlock ∧ some k_ ≠ (.slice Ao33 t122.length co33 : Value).ownBlock ∧ some k_ ≠ (v126 : Value).ownBlock)) (by (with_reducible repeat (first | apply Kd.V_alloc | apply Kd.V_drewN | apply Kd.V_drew)); exact HO_0.out) hg hat); have n1_ := Aside0.mk (Kd.R_after (ok := (fun k_ => (w.heap.size ≤ k_) ∧ some k_ ≠ (.slice Ao30 t115.length co30 : Value).ownBlock ∧ some k_ ≠ (.slice Ao33 t122.length co33 : Value).ownBlock ∧ some k_ ≠ (v126 : Value).ownBlock)) (by (with_reducible repeat (first | apply Kd.R_alloc | apply Kd.R_drewN | apply Kd.R_drew)); exact HO_4.out) hg hat); have n2_ := Aside0.mk (Kd.V_afterv (ok := (fun k_ => (P0_ k_ ∨ w.heap.size ≤ k_) ∧ some k_ ≠ (.slice Ao38 x4_2.length co38 : Value).ownBlock ∧ some k_ ≠ (.slice Ao30 t115.length co30 : Value).ownBlock ∧ some k_ ≠ (.slice Ao33 t122.length co33 : Value).ownBlock ∧ some k_ ≠ (v126 : Value).ownBlock)) (by (with_reducible repeat (first | apply Kd.V_alloc | apply Kd.V_drewN | apply Kd.V_drew)); exact HL113_0.out) hg hat); have n3_ := Aside0.mk (Kd.V_afterv (ok := (fun k_ => (P0_ k_ ∨ w.heap.size ≤ k_) ∧ some k_ ≠ (.slice Ao38 x4_2.length co38 : Value).ownBlock ∧ some k_ ≠ (.slice Ao30 t115.length co30 : Value).ownBlock ∧ some k_ ≠ (.slice Ao33 t122.length co33 : Value).ownBlock ∧ some k_ ≠ (v126 : Value).ownBlock)) (by (with_reducible repeat (first | apply Kd.V_alloc | apply Kd.V_drewN | apply Kd.V_drew)); exact HL114_0.out) hg hat); have n4_ := Aside0.mk (Kd.R_after (ok := (fun k_ => (w.heap.size ≤ k_) ∧ some k_ ≠ (.slice Ao38 x4_2.length co38 : Value).ownBlock ∧ some k_ ≠ (.slice Ao33 t122.length co33 : Value).ownBlock ∧ some k_ ≠ (v126 : Value).ownBlock)) (by (with_reducible repeat (first | apply Kd.R_alloc | apply Kd.R_drewN | apply Kd.R_drew)); exact HO117.out) hg hat); have n5_ := Aside0.mk (Kd.V_afterv (ok := (fun k_ => (P0_ k_ ∨ w.heap.size ≤ k_) ∧ some k_ ≠ (.slice Ao38 x4_2.length co38 : Value).ownBlock ∧ some k_ ≠ (.slice Ao30 t115.length co30 : Value).ownBlock ∧ some k_ ≠ (.slice Ao33 t122.length co33 : Value).ownBlock ∧ some k_ ≠ (v126 : Value).ownBlock)) (by (with_reducible repeat (first | apply Kd.V_alloc | apply Kd.V_drewN | apply Kd.V_drew)); exact HL121_0.out) hg hat); have n6_ := Aside0.mk (Kd.R_after (ok := (fun k_ => (w.heap.size ≤ k_) ∧ some k_ ≠ (.slice Ao38 x4_2.length co38 : Value).ownBlock ∧ some k_ ≠ (.slice Ao30 t115.length co30 : Value).ownBlock ∧ some k_ ≠ (v126 : Value).ownBlock)) (by (with_reducible repeat (first | apply Kd.R_alloc | apply Kd.R_drewN | apply Kd.R_drew)); exact HO124.out) hg hat); have n7_ := Aside0.mk (Kd.R_after (ok := (fun k_ => (w.heap.size ≤ k_) ∧ some k_ ≠ (.slice Ao38 x4_2.length co38 : Value).ownBlock ∧ some k_ ≠ (.slice Ao30 t115.length co30 : Value).ownBlock ∧ some k_ ≠ (.slice Ao33 t122.length co33 : Value).ownBlock)) (by (with_reducible repeat (first | apply Kd.R_alloc | apply Kd.R_drewN | apply Kd.R_drew)); exact HO127.out) hg hat); have n8_ := Aside0.mk (Kd.V_afterv (ok := (fun k_ => (P0_ k_ ∨ w.heap.size ≤ k_) ∧ some k_ ≠ (.slice Ao38 x4_2.length co38 : Value).ownBlock ∧ some k_ ≠ (.slice Ao30 t115.length co30 : Value).ownBlock ∧ some k_ ≠ (.slice Ao33 t122.length co33 : Value).ownBlock ∧ some k_ ≠ (v126 : Value).ownBlock)) (by (with_reducible repeat (first | apply Kd.V_alloc | apply Kd.V_drewN | apply Kd.V_drew)); exact HL131_0.out) hg hat); have n9_ := Aside0.mk (hb); have n10_ := Aside0.mk (ho); clear HO_0; clear HO_4; clear HL113_0; clear HL114_0; clear HO117; clear HL121_0; clear HO124; clear HO127; clear HL131_0; clear HB; clear HO134; have HO_0 := n0_; have HO_4 := n1_; have HL113_0 := n2_; have HL114_0 := n3_; have HO117 := n4_; have HL121_0 := n5_; have HO124 := n6_; have HO127 := n7_; have HL131_0 := n8_; have HB := n9_; have HO137 := n10_; clear n0_ n1_ n2_ n3_ n4_ n5_ n6_ n7_ n8_ n9_ n10_; clear ho hb hg hat))
                          go_roundg k2
                          case measure => have := HJ1.out; have := HK2.out; omega
                          case rel => exact ⟨(y125), (y135), (wrap64 (x5_2 - (((rd_T59 x0_1 x6_2).f0).length : Int))), (wrap64 (x6_2 + 1)), (by first | rfl | (simp; done) | (simp [*]; done)), (by first | rfl | (simp; done) | (simp [*]; done)), H', ⟨by have := HJ1.out; have := HK2.out; omega⟩, ⟨by (with_reducible repeat (first | apply Kd.V_alloc | apply Kd.V_drewN | apply Kd.V_drew)); exact Kd.V_mono HO_0.out (fun _ hk => ⟨hk.1.1, ⟨hk.1.2.2.2.2, hk.2⟩⟩)⟩, ⟨by (with_reducible repeat (first | apply Kd.R_alloc | apply Kd.R_drewN | apply Kd.R_drew)); exact Kd.R_mono HO127.out (fun _ hk => ⟨hk.1.1, hk.2⟩)⟩, ⟨by (with_reducible repeat (first | apply Kd.R_alloc | apply Kd.R_drewN | apply Kd.R_drew)); exact Kd.R_mono HO137.out (fun _ hk => ⟨hk.1, hk.2.2.2.2⟩)⟩, ⟨by repeat (first | (with_reducible first | exact HB.out | apply below_alloc | apply pw_below_drewN | apply below_drew1) | exact HB.out)⟩⟩
                      · rw [if_neg c27] at H
                        exact absurd H (by simp)
                    · rw [if_neg c26] at H
                      exact absurd H (by simp)
                  · rw [if_neg c25] at H
                    exact absurd H (by simp)
                · rw [if_neg c23] at H
                  exact absurd H (by simp)
              · replace c21 := Bool.eq_false_iff.mpr c21
                subst c21
                have H1 : ((some (([0, 0, 0, 0] : List Int) : List Int)).bind fun y138 => (if x3_2.length + y138.length < 140737488355328 then (longstopref12_write.l1 k2 x0_1 (x3_2 ++ y138) x4_2 x5_2 (wrap64 (x6_2 + 1))) else (none))) = some r := by rw [if_neg (show ¬ (false = true) by decide)] at H; exact H
                clear H
                have H := H1
                clear H1
                obtain ⟨y138, hy138⟩ : ∃ y_ : List Int, y_ = (([0, 0, 0, 0] : List Int)) := ⟨_, rfl⟩
                replace H : (if x3_2.length + y138.length < 140737488355328 then (longstopref12_write.l1 k2 x0_1 (x3_2 ++ y138) x4_2 x5_2 (wrap64 (x6_2 + 1))) else (none)) = some r := by first | (rw [hy138]; with_reducible exact H) | (have H2_ := (Option.bind_some _ _).symm.trans H; rw [hy138]; with_reducible exact H2_) | (have H2_ := (Option.bind_some _ _).symm.trans H; with_reducible exact H2_) | with_reducible exact H | (rw [hy138]; exact H) | exact H
                have Ny138 := Aside0.mk hy138
                clear hy138
                by_cases c39 : x3_2.length + y138.length < 140737488355328
                · rw [if_pos c39] at H
                  have LMc39 := Aside0.mk c39
                  clear c39
                  obtain ⟨y141, hy141⟩ : ∃ y_ : List Int, y_ = (x3_2 ++ y138) := ⟨_, rfl⟩
                  replace H : (longstopref12_write.l1 k2 x0_1 y141 x4_2 x5_2 (wrap64 (x6_2 + 1))) = some r := by first | (rw [hy141]; with_reducible exact H) | (have H2_ := (Option.bind_some _ _).symm.trans H; rw [hy141]; with_reducible exact H2_) | (have H2_ := (Option.bind_some _ _).symm.trans H; with_reducible exact H2_) | with_reducible exact H | (rw [hy141]; exact H) | exact H
                  have Ny141 := Aside0.mk hy141
                  clear hy141
                  have H' := Aside0.mk H
                  clear H
                  have p113 : 0 ≤ (x6_2 : Int) := of_decide_eq_true (by first | (with_reducible assumption) | assumption)
                  have q113 : x6_2 < (x0_1.length : Int) := of_decide_eq_true (by first | (with_reducible assumption) | assumption)
                  obtain ⟨ad113, A113_0, c113_0, e113, hx113_0, hx113_1, hl113_0, hi113_0⟩ := at_T59 (Kd.V_reads' HO_0.out).2.2 x6_2 p113 q113
                  (try rw [← Nbq20.out] at hx113_1)
                  cases e113
                  obtain ⟨ce113, hce113, hMe113, hcc113⟩ := Kd.V_get HO_0.out z59 x6_2 p113 (by first | exact q113 | exact of_decide_eq_true (by first | (with_reducible assumption) | assumption) | (have e_ := (Kd.V_reads' HO_0.out).1; omega))
                  obtain ⟨ua113_0, uc113_0, rfl, ul113_0, ge113_0⟩ := k59_openF hMe113
                  have hv113_0 := hcc113 0 _ rfl
                  rw [Nat.add_zero] at hv113_0
                  replace hv113_0 := Option.some.inj (hv113_0.symm.trans hx113_0)
                  injection hv113_0 with hva_ hvn_ hvc_
                  rw [hva_] at ge113_0
                  rw [hvc_] at ul113_0
                  have HL113_0 := Aside0.mk (show Kd.V (Kd.int .u8) 5 _ w.heap.size _ _ ((rd_T59 x0_1 x6_2).f0) from Kd.V_mk ul113_0 ge113_0)
                  clear hva_ hvn_ hvc_ ge113_0 ul113_0
                  clear hcc113 hce113
                  have HR113_0 := Aside0.mk hi113_0
                  have HC113_0 := Aside0.mk hl113_0
                  clear hi113_0 hl113_0
                  replace p113 := eq_true p113
                  replace q113 := eq_true q113
                  go_wp2_with (first | ((with_reducible refine gate_dst (N := 43) rfl ?_); (try (refine gate_guard (by rfl) ?_; dsimp only)); refine Kd.R_lit (Kd.int .u8) _ 5 ?hg (N := 43) ?hd (xs := ([0, 0, 0, 0] : List Int)) (inner := [.int .u8 0, .int .u8 0, .int .u8 0, .int .u8 0]) (ok := fun _ => True) (okp := fun _ => True) ?hr ?hp (fun _ hk => hk) trivial (Below.refl _ _) (Nat.le_refl _) (by simp) ?_; (case hd => rfl); (case hg => rfl); (case hr => first | (go_simp; done) | (go_simp; rfl)); (case hp => exact (Reps.one (show Kd.M (Kd.int .u8) _ _ _ 0 [.int .u8 0] from rfl) (Reps.one (show Kd.M (Kd.int .u8) _ _ _ 0 [.int .u8 0] from rfl) (Reps.one (show Kd.M (Kd.int .u8) _ _ _ 0 [.int .u8 0] from rfl) (Reps.one (show Kd.M (Kd.int .u8) _ _ _ 0 [.int .u8 0] from rfl) (Reps.none _ _)))))); intro v139 w40 ho41 hb hg_ hnew_; clear hg_ hnew_; (first | rw [← Ny138.out] at ho41 | (simp only [Int.reduceToNat] at ho41; rw [← Ny138.out] at ho41)); have n0_ := Aside0.mk (Kd.V_elder' (by (with_reducible repeat (first | apply Kd.V_alloc | apply Kd.V_drewN | apply Kd.V_drew)); exact HO_0.out) (Kd.R_base ho41) hb); have n1_ := Aside0.mk (Kd.R_elder' (by (with_reducible repeat (first | apply Kd.R_alloc | apply Kd.R_drewN | apply Kd.R_drew)); exact HO_3.out) (Kd.R_base ho41) hb); have n2_ := Aside0.mk (Kd.R_elder' (by (with_reducible repeat (first | apply Kd.R_alloc | apply Kd.R_drewN | apply Kd.R_drew)); exact HO_4.out) (Kd.R_base ho41) hb); have n3_ := Aside0.mk (Kd.V_elder' (by (with_reducible repeat (first | apply Kd.V_alloc | apply Kd.V_drewN | apply Kd.V_drew)); exact HL113_0.out) (Kd.R_base ho41) hb); have n4_ := Aside0.mk (Kd.R_lower (Kd.R_new' (Kd.R_new' (Kd.R_newM (M := fun k_ => (w.heap.size ≤ k_)) ho41 (below_size (by repeat (first | (with_reducible first | exact HB.out | apply below_alloc | apply pw_below_drewN | apply below_drew1) | exact HB.out))) (fun k_ h_ => h_)) (Kd.R_lt (by (with_reducible repeat (first | apply Kd.R_alloc | apply Kd.R_drewN | apply Kd.R_drew)); exact HO_3.out))) (Kd.R_lt (by (with_reducible repeat (first | apply Kd.R_alloc | apply Kd.R_drewN | apply Kd.R_drew)); exact HO_4.out))) (below_size (by repeat (first | (with_reducible first | exact HB.out | apply below_alloc | apply pw_below_drewN | apply below_drew1) | exact HB.out)))); have n5_ := Aside0.mk (Kd.C_below (by repeat (first | (with_reducible exact HR113_0.out) | (with_reducible refine Kd.C_alloc ?_ _) | (with_reducible refine Kd.C_drewN ?_ _) | (with_reducible refine Kd.C_drew ?_) | exact HR113_0.out)) hb); have n6_ := Aside0.mk (below_step (by repeat (first | (with_reducible first | exact HB.out | apply below_alloc | apply pw_below_drewN | apply below_drew1) | exact HB.out)) hb); clear HO_0; clear HO_3; clear HO_4; clear HL113_0; clear HR113_0; clear HB; have HO_0 := n0_; have HO_3 := n1_; have HO_4 := n2_; have HL113_0 := n3_; have HO140 := n4_; have HR113_0 := n5_; have HB := n6_; clear n0_ n1_ n2_ n3_ n4_ n5_ n6_; clear hb ho41; obtain ⟨Ao43, co43, eo43⟩ := Kd.R_slice HO140.out; subst eo43) | ((with_reducible refine gate_builtin (b := .append) (xs := #[.tmp 42, .tmp 43]) rfl ?_); (try (refine gate_guard (by rfl) ?_; dsimp only)); at_builtin; refine Kd.R_append_rows (Kd.int .u8) (w0 := w) w.heap.size rfl (.tmp 42) (.tmp 43) 22 5 (.int .u8 0) 1 rfl Try.underlying22 info5 rfl (by decide) (by omega) u3 x3_2 y138 _ _ _ (fun k_ => (w.heap.size ≤ k_) ∧ some k_ ≠ (u4 : Value).ownBlock ∧ some k_ ≠ (.slice Ao43 y138.length co43 : Value).ownBlock) (fun _ => False) rfl rfl ?aO ?aR (fun _ _ h => h) (fun _ h => h.elim) ?aF ?aB ?aS ?aL ?_; (case aR => repeat (first | exact (Kd.R_reads' HO140.out).2.2 | (with_reducible refine Kd.C_alloc ?_ _) | (with_reducible refine Kd.C_drewN ?_ _) | (with_reducible refine Kd.C_drew ?_))); (case aB => exact (by repeat (first | (with_reducible first | exact HB.out | apply below_alloc | apply pw_below_drewN | apply below_drew1) | exact HB.out))); (case aF => exact (fun k_ hk => ⟨(Nat.le_trans (below_size (by repeat (first | (with_reducible first | exact HB.out | apply below_alloc | apply pw_below_drewN | apply below_drew1) | exact HB.out))) hk), Kd.fresh' (Kd.R_lt (by (with_reducible repeat (first | apply Kd.R_alloc | apply Kd.R_drewN | apply Kd.R_drew)); exact HO_4.out)) k_ hk, Kd.fresh' (Kd.R_lt (by (with_reducible repeat (first | apply Kd.R_alloc | apply Kd.R_drewN | apply Kd.R_drew)); exact HO140.out)) k_ hk⟩)); (case aO => exact (by (with_reducible repeat (first | apply Kd.R_alloc | apply Kd.R_drewN | apply Kd.R_drew)); exact Kd.R_mono HO_3.out (fun _ hk => ⟨hk.1.1, ⟨hk.1.2, hk.2⟩⟩))); (case aS => exact (below_size (by repeat (first | (with_reducible first | exact HB.out | apply below_alloc | apply pw_below_drewN | apply below_drew1) | exact HB.out)))); (case aL => have := LMc39.out; omega); intro v142 w42 ho hb hg hat; rw [← Ny141.out] at ho; have n0_ := Aside0.mk (Kd.V_afterv (ok := (fun k_ => (P0_ k_ ∨ w.heap.size ≤ k_) ∧ some k_ ≠ (u4 : Value).ownBlock ∧ some k_ ≠ (.slice Ao43 y138.length co43 : Value).ownBlock)) (by (with_reducible repeat (first | apply Kd.V_alloc | apply Kd.V_drewN | apply Kd.V_drew)); exact Kd.V_mono HO_0.out (fun _ hk => ⟨⟨hk.1.1, ⟨hk.1.2.2, hk.2⟩⟩, hk.1.2.1⟩)) hg hat); have n1_ := Aside0.mk (Kd.R_after (ok := (fun k_ => (w.heap.size ≤ k_) ∧ some k_ ≠ (.slice Ao43 y138.length co43 : Value).ownBlock)) (by (with_reducible repeat (first | apply Kd.R_alloc | apply Kd.R_drewN | apply Kd.R_drew)); exact Kd.R_mono HO_4.out (fun _ hk => ⟨⟨hk.1.1, hk.2⟩, hk.1.2⟩)) hg hat); have n2_ := Aside0.mk (Kd.V_afterv (ok := (fun k_ => (P0_ k_ ∨ w.heap.size ≤ k_) ∧ some k_ ≠ (u4 : Value).ownBlock ∧ some k_ ≠ (.slice Ao43 y138.length co43 : Value).ownBlock)) (by (with_reducible repeat (first | apply Kd.V_alloc | apply Kd.V_drewN | apply Kd.V_drew)); exact Kd.V_mono HL113_0.out (fun _ hk => ⟨⟨hk.1.1, ⟨hk.1.2.2, hk.2⟩⟩, hk.1.2.1⟩)) hg hat); have n3_ := Aside0.mk (Kd.R_after (ok := (fun k_ => (w.heap.size ≤ k_) ∧ some k_ ≠ (u4 : Value).ownBlock)) (by (with_reducible repeat (first | apply Kd.R_alloc | apply Kd.R_drewN | apply Kd.R_drew)); exact Kd.R_mono HO140.out (fun _ hk => ⟨⟨hk.1.1.1, hk.2⟩, hk.1.2⟩)) hg hat); have n4_ := Aside0.mk (hb); have n5_ := Aside0.mk (ho); clear HO_0; clear HO_4; clear HL113_0; clear HO140; clear HB; clear HO_3; have HO_0 := n0_; have HO_4 := n1_; have HL113_0 := n2_; have HO140 := n3_; have HB := n4_; have HO143 := n5_; clear n0_ n1_ n2_ n3_ n4_ n5_; clear ho hb hg hat))
                  go_roundg k2
                  case measure => have := HJ1.out; have := HK2.out; omega
                  case rel => exact ⟨(y141), (x4_2), (x5_2), (wrap64 (x6_2 + 1)), (by first | rfl | (simp; done) | (simp [*]; done)), (by first | rfl | (simp; done) | (simp [*]; done)), H', ⟨by have := HJ1.out; have := HK2.out; omega⟩, ⟨by (with_reducible repeat (first | apply Kd.V_alloc | apply Kd.V_drewN | apply Kd.V_drew)); exact Kd.V_mono HO_0.out (fun _ hk => ⟨hk.1.1, ⟨hk.2, hk.1.2.1⟩⟩)⟩, ⟨by (with_reducible repeat (first | apply Kd.R_alloc | apply Kd.R_drewN | apply Kd.R_drew)); exact Kd.R_mono HO143.out (fun _ hk => ⟨hk.1, hk.2.1⟩)⟩, ⟨by (with_reducible repeat (first | apply Kd.R_alloc | apply Kd.R_drewN | apply Kd.R_drew)); exact Kd.R_mono HO_4.out (fun _ hk => ⟨hk.1.1, hk.2⟩)⟩, ⟨by repeat (first | (with_reducible first | exact HB.out | apply below_alloc | apply pw_below_drewN | apply below_drew1) | exact HB.out)⟩⟩
                · rw [if_neg c39] at H
                  exact absurd H (by simp)
            · rw [if_neg c19] at H
              exact absurd H (by simp)
          · rw [if_neg c18] at H
            have c18b0 : decide (x6_2 < (x0_1.length : Int)) = false := decide_eq_false c18
            clear c18
            obtain ⟨ji44, hji44⟩ : ∃ j_ : Int, (wrap64 (x5_2 - (x3_2.length : Int))) = j_ := ⟨_, rfl⟩
            replace H : (if 0 ≤ (ji44) then (if x3_2.length + (ji44 : Int).toNat < 140737488355328 then ((some (x3_2 ++ List.replicate (ji44 : Int).toNat 0 : List Int)).bind fun y144 => (if y144.length + x4_2.length < 140737488355328 then ((some (y144 ++ x4_2 : List Int)).bind fun y147 => ((longstopref01_Sum.f y147).bind fun t150 => (longstopref12_write.l2 k2 y147 t150 56))) else (none))) else (none)) else (none)) = some r := by first | (rw [hji44] at H; exact H) | (simp only [hji44] at H ⊢; exact H)
            have hji44w : (IntKind.i64.wrap (x5_2 - (x3_2.length : Int))) = ji44 := (i64_w _).trans hji44
            by_cases c45 : 0 ≤ (ji44)
            · rw [if_pos c45] at H
              have c45b0 := eq_true c45
              have c45b1 : decide (0 ≤ (ji44)) = true := decide_eq_true c45
              clear c45
              by_cases c46 : x3_2.length + (ji44 : Int).toNat < 140737488355328
              · rw [if_pos c46] at H
                have LMc46 := Aside0.mk c46
                clear c46
                obtain ⟨y144, hy144⟩ : ∃ y_ : List Int, y_ = (x3_2 ++ List.replicate (ji44 : Int).toNat 0) := ⟨_, rfl⟩
                replace H : (if y144.length + x4_2.length < 140737488355328 then ((some (y144 ++ x4_2 : List Int)).bind fun y147 => ((longstopref01_Sum.f y147).bind fun t150 => (longstopref12_write.l2 k2 y147 t150 56))) else (none)) = some r := by first | (rw [hy144]; with_reducible exact H) | (have H2_ := (Option.bind_some _ _).symm.trans H; rw [hy144]; with_reducible exact H2_) | (have H2_ := (Option.bind_some _ _).symm.trans H; with_reducible exact H2_) | with_reducible exact H | (rw [hy144]; exact H) | exact H
                have Ny144 := Aside0.mk hy144
                clear hy144
                by_cases c47 : y144.length + x4_2.length < 140737488355328
                · rw [if_pos c47] at H
                  have LMc47 := Aside0.mk c47
                  clear c47
                  obtain ⟨y147, hy147⟩ : ∃ y_ : List Int, y_ = (y144 ++ x4_2) := ⟨_, rfl⟩
                  replace H : ((longstopref01_Sum.f y147).bind fun t150 => (longstopref12_write.l2 k2 y147 t150 56)) = some r := by first | (rw [hy147]; with_reducible exact H) | (have H2_ := (Option.bind_some _ _).symm.trans H; rw [hy147]; with_reducible exact H2_) | (have H2_ := (Option.bind_some _ _).symm.trans H; with_reducible exact H2_) | with_reducible exact H | (rw [hy147]; exact H) | exact H
                  have Ny147 := Aside0.mk hy147
                  clear hy147
                  replace H := Option.bind_eq_some_iff.mp H
                  obtain ⟨t150, A480, H⟩ := H
                  replace H : (longstopref12_write.l2 k2 y147 t150 56) = some r := H
                  have A48 := Aside0.mk A480
                  clear A480
                  have H' := Aside0.mk H
                  clear H
                  obtain ⟨Ao49, co49, eo49⟩ := Kd.R_slice HO_3.out
                  subst eo49
                  go_wp2_with (first | (at_builtin; refine Kd.R_append_zeros (Kd.int .u8) (w0 := w) w.heap.size rfl (.tmp 74) (.tmp 78) 22 3 5 (.int .u8 0) 1 rfl Try.underlying22 Try.underlying3 info5 rfl (by decide) (by omega) (.slice Ao49 x3_2.length co49) x3_2 0 (ji44 : Int) (fun k_ => (w.heap.size ≤ k_) ∧ some k_ ≠ (u4 : Value).ownBlock) rfl rfl rfl ?aF ?aO (of_decide_eq_true (by first | (with_reducible assumption) | assumption)) ?aB ?aS ?aL ?_; (case aB => exact (by repeat (first | (with_reducible first | exact HB.out | apply below_alloc | apply pw_below_drewN | apply below_drew1) | exact HB.out))); (case aF => exact (fun k_ hk => ⟨(Nat.le_trans (below_size (by repeat (first | (with_reducible first | exact HB.out | apply below_alloc | apply pw_below_drewN | apply below_drew1) | exact HB.out))) hk), Kd.fresh' (Kd.R_lt (by (with_reducible repeat (first | apply Kd.R_alloc | apply Kd.R_drewN | apply Kd.R_drew)); exact HO_4.out)) k_ hk⟩)); (case aO => exact (by (with_reducible repeat (first | apply Kd.R_alloc | apply Kd.R_drewN | apply Kd.R_drew)); exact HO_3.out)); (case aS => exact (below_size (by repeat (first | (with_reducible first | exact HB.out | apply below_alloc | apply pw_below_drewN | apply below_drew1) | exact HB.out)))); (case aL => have := LMc46.out; omega); intro v145 w50 ho hb hg hat; rw [← Ny144.out] at ho; have n0_ := Aside0.mk (Kd.V_afterv (ok := (fun k_ => (P0_ k_ ∨ w.heap.size ≤ k_) ∧ some k_ ≠ (u4 : Value).ownBlock)) (by (with_reducible repeat (first | apply Kd.V_alloc | apply Kd.V_drewN | apply Kd.V_drew)); exact Kd.V_mono HO_0.out (fun _ hk => ⟨⟨hk.1, hk.2.2⟩, hk.2.1⟩)) hg hat); have n1_ := Aside0.mk (Kd.R_after (ok := (fun k_ => (w.heap.size ≤ k_))) (by (with_reducible repeat (first | apply Kd.R_alloc | apply Kd.R_drewN | apply Kd.R_drew)); exact HO_4.out) hg hat); have n2_ := Aside0.mk (hb); have n3_ := Aside0.mk (ho); clear HO_0; clear HO_4; clear HB; clear HO_3; have HO_0 := n0_; have HO_4 := n1_; have HB := n2_; have HO146 := n3_; clear n0_ n1_ n2_ n3_; clear ho hb hg hat; obtain ⟨Ao52, co52, eo52⟩ := Kd.R_slice HO_4.out; subst eo52) | ((with_reducible refine gate_builtin (b := .append) (xs := #[.tmp 80, .tmp 81]) rfl ?_); (try (refine gate_guard (by rfl) ?_; dsimp only)); at_builtin; refine Kd.R_append_rows (Kd.int .u8) (w0 := w) w.heap.size rfl (.tmp 80) (.tmp 81) 22 5 (.int .u8 0) 1 rfl Try.underlying22 info5 rfl (by decide) (by omega) v145 y144 x4_2 _ _ _ (fun k_ => (w.heap.size ≤ k_) ∧ some k_ ≠ (.slice Ao52 x4_2.length co52 : Value).ownBlock) (fun _ => False) rfl rfl ?aO ?aR (fun _ _ h => h) (fun _ h => h.elim) ?aF ?aB ?aS ?aL ?_; (case aR => repeat (first | exact (Kd.R_reads' HO_4.out).2.2 | (with_reducible refine Kd.C_alloc ?_ _) | (with_reducible refine Kd.C_drewN ?_ _) | (with_reducible refine Kd.C_drew ?_))); (case aB => exact (by repeat (first | (with_reducible first | exact HB.out | apply below_alloc | apply pw_below_drewN | apply below_drew1) | exact HB.out))); (case aF => exact (fun k_ hk => ⟨(Nat.le_trans (below_size (by repeat (first | (with_reducible first | exact HB.out | apply below_alloc | apply pw_below_drewN | apply below_drew1) | exact HB.out))) hk), Kd.fresh' (Kd.R_lt (by (with_reducible repeat (first | apply Kd.R_alloc | apply Kd.R_drewN | apply Kd.R_drew)); exact HO_4.out)) k_ hk⟩)); (case aO => exact (by (with_reducible repeat (first | apply Kd.R_alloc | apply Kd.R_drewN | apply Kd.R_drew)); exact HO146.out)); (case aS => exact (below_size (by repeat (first | (with_reducible first | exact HB.out | apply below_alloc | apply pw_below_drewN | apply below_drew1) | exact HB.out)))); (case aL => have := LMc47.out; omega); intro v148 w51 ho hb hg hat; rw [← Ny147.out] at ho; have n0_ := Aside0.mk (Kd.V_afterv (ok := (fun k_ => (P0_ k_ ∨ w.heap.size ≤ k_) ∧ some k_ ≠ (.slice Ao52 x4_2.length co52 : Value).ownBlock)) (by (with_reducible repeat (first | apply Kd.V_alloc | apply Kd.V_drewN | apply Kd.V_drew)); exact HO_0.out) hg hat); have n1_ := Aside0.mk (Kd.R_after (ok := (fun k_ => (w.heap.size ≤ k_))) (by (with_reducible repeat (first | apply Kd.R_alloc | apply Kd.R_drewN | apply Kd.R_drew)); exact HO_4.out) hg hat); have n2_ := Aside0.mk (hb); have n3_ := Aside0.mk (ho); clear HO_0; clear HO_4; clear HB; clear HO146; have HO_0 := n0_; have HO_4 := n1_; have HB := n2_; have HO149 := n3_; clear n0_ n1_ n2_ n3_; clear ho hb hg hat; obtain ⟨Ao53, co53, eo53⟩ := Kd.R_slice HO149.out; subst eo53) | ((with_reducible refine gate_callee (f := 41) rfl ?_); refine goesL_ (some 84) rfl rfl Try.func41 (by kernel_rfl) rfl #[.slice Ao53 y147.length co53] rfl (by (try simp only [List.map_toArray, List.map_cons, List.map_nil]); first | done | rfl | (simp only [List.length_drop, List.length_take]; rfl)) ?_; (with_reducible refine (longstopref01_Sum.calls _ _ y147 t150 _ ?side1 ?side2 A48.out).mono ?_); (case side1 => repeat (first | exact (Kd.R_reads' HO149.out).2.2 | (with_reducible refine Kd.C_alloc ?_ _) | (with_reducible refine Kd.C_drewN ?_ _) | (with_reducible refine Kd.C_drew ?_))); (case side2 => exact (Kd.R_reads' HO149.out).2.1); rintro e w54 ⟨rfl, hb⟩; refine ⟨_, rfl, ?_⟩; have n0_ := Aside0.mk (Kd.V_below (by (with_reducible repeat (first | apply Kd.V_alloc | apply Kd.V_drewN | apply Kd.V_drew)); exact HO_0.out) hb); have n1_ := Aside0.mk (Kd.R_below (by (with_reducible repeat (first | apply Kd.R_alloc | apply Kd.R_drewN | apply Kd.R_drew)); exact HO_4.out) hb); have n2_ := Aside0.mk (Kd.R_below (by (with_reducible repeat (first | apply Kd.R_alloc | apply Kd.R_drewN | apply Kd.R_drew)); exact HO149.out) hb); have n3_ := Aside0.mk (below_step (by repeat (first | (with_reducible first | exact HB.out | apply below_alloc | apply pw_below_drewN | apply below_drew1) | exact HB.out)) hb); clear HO_0; clear HO_4; clear HO149; clear HB; have HO_0 := n0_; have HO_4 := n1_; have HO149 := n2_; have HB := n3_; clear n0_ n1_ n2_ n3_; (try clear hb); (try clear hb2); (try clear hk); (try clear hi)))
                  go_loopg [3, 8] k2 (fun kq v3 v8 w' => ∃ (x3_3 : List Int) (x8_3 : Int), v8 = .int .i64 x8_3 ∧ Aside0 (longstopref12_write.l2 kq x3_3 t150 x8_3 = some r) ∧ Aside0 (kq ≤ k2) ∧ Aside0 (Kd.R (Kd.int .u8) 5 w' w.heap.size (fun k_ => (w.heap.size ≤ k_)) v3 x3_3) ∧ Aside0 (Below w.heap.size w w'))
                  case atStart => exact ⟨(y147), (56), (by first | rfl | (simp; done) | (simp [*]; done)), H', ⟨Nat.le_refl _⟩, ⟨by (with_reducible repeat (first | apply Kd.R_alloc | apply Kd.R_drewN | apply Kd.R_drew)); exact Kd.R_mono HO149.out (fun _ hk => hk.1)⟩, ⟨by repeat (first | (with_reducible first | exact HB.out | apply below_alloc | apply pw_below_drewN | apply below_drew1) | exact HB.out)⟩⟩
                  case round =>
                    clear H'
                    try clear c1
                    try clear p1
                    try clear q1
                    try clear hx1
                    try clear c2
                    try clear p2
                    try clear q2
                    try clear c3
                    try clear c3b0
                    try clear c3b1
                    try clear c4
                    try clear c5
                    try clear c5b0
                    try clear c6
                    try clear c6b0
                    try clear p6
                    try clear q7
                    try clear c8
                    try clear c10
                    try clear c10b0
                    try clear p10
                    try clear q10
                    try clear hx10
                    try clear c11
                    try clear c11b0
                    try clear c11b1
                    try clear p11
                    try clear q11
                    try clear hx11
                    try clear c12
                    try clear p12
                    try clear q12
                    try clear hx12
                    try clear c13
                    try clear p13
                    try clear q13
                    try clear hx13
                    try clear c18
                    try clear c18b0
                    try clear c19
                    try clear c19b0
                    try clear q20
                    try clear c21
                    try clear c23
                    try clear c25
                    try clear c26
                    try clear c27
                    try clear c31
                    try clear c39
                    try clear c40
                    try clear c41
                    try clear c45
                    try clear c45b0
                    try clear c45b1
                    try clear c46
                    try clear c47
                    try clear hx104_0
                    try clear hx104_1
                    try clear hx113_0
                    try clear hx113_1
                    try clear hx114_0
                    try clear hx114_1
                    try clear hx121_0
                    try clear hx121_1
                    try clear hx131_0
                    try clear hx131_1
                    try clear p1
                    try clear p10
                    try clear p104
                    try clear p113
                    try clear p114
                    try clear p121
                    try clear p131
                    try clear p2
                    try clear p6
                    try clear q1
                    try clear q10
                    try clear q104
                    try clear q113
                    try clear q114
                    try clear q121
                    try clear q13
                    try clear q131
                    try clear q7
                    obtain ⟨x3_3, x8_3, rfl, HA, HK3, HO_3, HB⟩ := hrel
                    cases gk with
                    | zero => exact absurd HA.out (by simp [longstopref12_write.l2])
                    | succ k3 =>
                      have H := HA.out
                      clear HA
                      simp only [longstopref12_write.l2] at H
                      by_cases c55 : x8_3 ≥ 0
                      · rw [if_pos c55] at H
                        have c55b0 : decide (0 ≤ x8_3) = true := decide_eq_true c55
                        clear c55
                        obtain ⟨ji56, hji56⟩ : ∃ j_ : Int, (IntKind.u64.wrap (x8_3)) = j_ := ⟨_, rfl⟩
                        replace H : (if 0 ≤ (ji56) then (if x3_3.length < 140737488355328 then (longstopref12_write.l2 k3 (x3_3 ++ [(shr .u64 t150 (ji56)) % 256]) t150 (wrap64 (x8_3 - 8))) else (none)) else (none)) = some r := by first | (rw [hji56] at H; exact H) | (simp only [hji56] at H ⊢; exact H)
                        by_cases c57 : 0 ≤ (ji56)
                        · rw [if_pos c57] at H
                          have c57b0 := eq_true c57
                          have c57b1 : decide (0 ≤ (ji56)) = true := decide_eq_true c57
                          clear c57
                          obtain ⟨ji58, hji58⟩ : ∃ j_ : Int, (shr .u64 t150 (ji56)) = j_ := ⟨_, rfl⟩
                          replace H : (if x3_3.length < 140737488355328 then (longstopref12_write.l2 k3 (x3_3 ++ [(ji58) % 256]) t150 (wrap64 (x8_3 - 8))) else (none)) = some r := by first | (rw [hji58] at H; exact H) | (simp only [hji58] at H ⊢; exact H)
                          have hji58_ : (t150 / 2 ^ min (ji56).toNat 64) = ji58 := hji58
                          have hji58z : (ji56) ≤ 64 → (t150 / 2 ^ (ji56).toNat) = ji58 := shr_small hji58
                          by_cases c59 : x3_3.length < 140737488355328
                          · rw [if_pos c59] at H
                            have LMc59 := Aside0.mk c59
                            clear c59
                            obtain ⟨y151, hy151⟩ : ∃ y_ : List Int, y_ = (x3_3 ++ [(ji58) % 256]) := ⟨_, rfl⟩
                            replace H : (longstopref12_write.l2 k3 y151 t150 (wrap64 (x8_3 - 8))) = some r := by first | (rw [hy151]; with_reducible exact H) | (have H2_ := (Option.bind_some _ _).symm.trans H; rw [hy151]; with_reducible exact H2_) | (have H2_ := (Option.bind_some _ _).symm.trans H; with_reducible exact H2_) | with_reducible exact H | (rw [hy151]; exact H) | exact H
                            have Ny151 := Aside0.mk hy151
                            clear hy151
                            have H' := Aside0.mk H
                            clear H
                            go_wp2_with (first | ((with_reducible refine gate_builtin (b := .append) (xs := #[.tmp 89, .tmp 95]) rfl ?_); (try (refine gate_guard (by rfl) ?_; dsimp only)); at_builtin; refine Kd.R_append (Kd.int .u8) (w0 := w) w.heap.size rfl (.tmp 89) (.tmp 95) 22 5 (.int .u8 0) 1 rfl Try.underlying22 info5 rfl (by decide) (by omega) u3 x3_3 ((ji58) % 256) [.int .u8 ((ji58) % 256)] (fun k_ => (w.heap.size ≤ k_)) (fun _ => False) rfl rfl ?aP (fun _ hk => hk.elim) ?aF ?aO ?aB ?aS ?aL ?_; (case aP => exact rfl); (case aB => exact (by repeat (first | (with_reducible first | exact HB.out | apply below_alloc | apply pw_below_drewN | apply below_drew1) | exact HB.out))); (case aF => exact (fun k_ hk => (Nat.le_trans (below_size (by repeat (first | (with_reducible first | exact HB.out | apply below_alloc | apply pw_below_drewN | apply below_drew1) | exact HB.out))) hk))); (case aO => exact (by (with_reducible repeat (first | apply Kd.R_alloc | apply Kd.R_drewN | apply Kd.R_drew)); exact HO_3.out)); (case aS => exact (below_size (by repeat (first | (with_reducible first | exact HB.out | apply below_alloc | apply pw_below_drewN | apply below_drew1) | exact HB.out)))); (case aL => have := LMc59.out; omega); intro v152 w60 ho hb hg hat; rw [← Ny151.out] at ho; have n0_ := Aside0.mk (hb); have n1_ := Aside0.mk (ho); clear HB; clear HO_3; have HB := n0_; have HO153 := n1_; clear n0_ n1_; clear ho hb hg hat))
                            go_roundg k3
                            case measure => have := HJ1.out; have := HK2.out; have := HK3.out; omega
                            case rel => exact ⟨(y151), (wrap64 (x8_3 - 8)), (by first | rfl | (simp; done) | (simp [*]; done)), H', ⟨by have := HJ1.out; have := HK2.out; have := HK3.out; omega⟩, ⟨by (with_reducible repeat (first | apply Kd.R_alloc | apply Kd.R_drewN | apply Kd.R_drew)); exact HO153.out⟩, ⟨by repeat (first | (with_reducible first | exact HB.out | apply below_alloc | apply pw_below_drewN | apply below_drew1) | exact HB.out)⟩⟩
                          · rw [if_neg c59] at H
                            exact absurd H (by simp)
                        · rw [if_neg c57] at H
                          exact absurd H (by simp)
                      · rw [if_neg c55] at H
                        have c55b0 : decide (0 ≤ x8_3) = false := decide_eq_false c55
                        clear c55
                        obtain rfl := Option.some.inj H
                        go_wp2
                        go_ret
                        exact ⟨_, by first | rfl | (simp [errW_none, errW_some] <;> rfl) | (simp only [← hji44]; first | rfl | (simp [errW_none, errW_some] <;> rfl)) | (simp [*, errW_none, errW_some] <;> rfl), by (with_reducible repeat (first | apply Kd.R_alloc | apply Kd.R_drewN | apply Kd.R_drew)); exact HO_3.out, by repeat (first | (with_reducible first | exact HB.out | apply below_alloc | apply pw_below_drewN | apply below_drew1) | exact HB.out)⟩
                · rw [if_neg c47] at H
                  exact absurd H (by simp)
              · rw [if_neg c46] at H
                exact absurd H (by simp)
            · rw [if_neg c45] at H
              exact absurd H (by simp)

/-! ### longstopref12_New: function 16 -/
def longstopref12_New.f (k : Nat)  : Option (List Int) := (longstopref12_write.f k ([] : List (S59))).bind fun t154 => (some t154)
theorem longstopref12_New.mono : ∀ k, LeO (longstopref12_New.f k ) (longstopref12_New.f (k + 1) ) := by
  intro  k
  unfold longstopref12_New.f
  repeat' first
      | (with_reducible exact longstopref12_write.mono _ _)
      | (with_reducible exact LeO.refl _)
      | (with_reducible exact LeO.none _)
      | (with_reducible refine LeO.ite ?_ ?_)
      | (with_reducible refine LeO.bind ?_ (fun _ => ?_))
      | exact longstopref12_write.mono _ _
      | exact LeO.none _
      | refine LeO.ite ?_ ?_
      | refine LeO.bind ?_ (fun _ => ?_)
set_option maxHeartbeats 8000000 in
set_option maxRecDepth 100000 in
theorem longstopref12_New.calls (k : Nat)  (r : List Int) (w : World) (h : longstopref12_New.f k  = some r) :
    Calls Try.prog 16 #[] w fun e w' => ∃ v0_ : Value, e = .returned (v0_) ∧ Kd.R (Kd.int .u8) 5 w' w.heap.size (fun _ => True) v0_ r ∧ Below w.heap.size w w' := by
  have HB := Aside0.mk (Below.refl w.heap.size w)
  have H : ((longstopref12_write.f k ([] : List (S59))).bind fun t154 => (some t154)) = some r := h
  clear h
  replace H := Option.bind_eq_some_iff.mp H
  obtain ⟨t154, A10, H⟩ := H
  replace H : (some t154) = some r := H
  have A1 := Aside0.mk A10
  clear A10
  obtain rfl := Option.some.inj H
  go_enter Try.func16, Try.ntmps16
  go_wp2_with (first | ((with_reducible refine gate_callee (f := 31) rfl ?_); refine goesL_ (some 1) rfl rfl Try.func31 (by kernel_rfl) rfl #[.slice none 0 0] rfl (by (try simp only [List.map_toArray, List.map_cons, List.map_nil]); first | done | rfl | (simp only [List.length_drop, List.length_take]; rfl)) ?_; (refine (longstopref12_write.calls k (fun k_ => False) _ _ ([] : List (S59)) t154 _ ?side1 A1.out).mono ?_); (case side1 => exact Kd.V_nil _ _ _ _ _); rintro e w2 ⟨v155, rfl, ho0, hb⟩; refine ⟨_, rfl, ?_⟩; have n0_ := Aside0.mk (Kd.R_lower (Kd.R_mono (ok' := fun k_ => True) ho0 (fun _ hk_ => trivial)) (below_size (by repeat (first | (with_reducible first | exact HB.out | apply below_alloc | apply pw_below_drewN | apply below_drew1) | exact HB.out)))); have n1_ := Aside0.mk (below_step (by repeat (first | (with_reducible first | exact HB.out | apply below_alloc | apply pw_below_drewN | apply below_drew1) | exact HB.out)) hb); clear HB; have HO156 := n0_; have HB := n1_; clear n0_ n1_; (try clear hb); (try clear hb2); (try clear hk); (try clear hi); (try clear ho0)))
  go_ret
  exact ⟨_, by first | rfl | (simp [errW_none, errW_some] <;> rfl) | (simp [*, errW_none, errW_some] <;> rfl), by (with_reducible repeat (first | apply Kd.R_alloc | apply Kd.R_drewN | apply Kd.R_drew)); exact HO156.out, by repeat (first | (with_reducible first | exact HB.out | apply below_alloc | apply pw_below_drewN | apply below_drew1) | exact HB.out)⟩

end Go.Proofs.Ytbffeibcndbmgaa.GW

/-! ## Layout -/
set_option linter.unusedVariables false
namespace Go.Proofs.Ytbffeibcndbmgaa.Pg

abbrev Slots := List (Option (List Int))
/-- how many bytes the records have. -/
def sizes : Slots → Nat
  | [] => 0
  | x :: l => (x.getD []).length + sizes l
def two (n : Nat) : List Int := [((n / 256 : Nat) : Int) % 256, (n : Int) % 256]
/-- the slots' fields; the records ahead begin at 'at'. -/
def fieldsL : Nat → Slots → List Int
  | _, [] => []
  | a, none :: l => 0 :: 0 :: 0 :: 0 :: fieldsL a l
  | a, some r :: l => two (a - r.length) ++ (two r.length ++ fieldsL (a - r.length) l)
/-- the records, the last slot's first. -/
def recsL : Slots → List Int
  | [] => []
  | x :: l => recsL l ++ x.getD []
def zeros (n : Nat) : List Int := List.replicate n 0
/-- of n slots, pre have been written. -/
def mid (n : Nat) (pre : Slots) : List Int := two n ++ (fieldsL 504 pre ++ (zeros (502 - 4 * pre.length - sizes pre) ++ (recsL pre ++ zeros 8)))
def body (l : Slots) : List Int := two l.length ++ (fieldsL 504 l ++ (zeros (502 - 4 * l.length - sizes l) ++ recsL l))
def byteAt (c : Int) (i : Nat) : Int := c / ((2 ^ (56 - 8 * i) : Nat) : Int) % 256
def eight (c : Int) : List Int := (List.range 8).map (byteAt c)
def Fits (l : Slots) : Prop := 2 + 4 * l.length + sizes l ≤ 504
def trim : Slots → Slots
  | [] => []
  | x :: l => match trim l with
    | [] => match x with
      | none => []
      | some r => [some r]
    | y :: m => x :: y :: m
/-- a page's bytes. -/
def pageL (l : Slots) : List Int := body (trim l) ++ eight (crc (body (trim l)))

theorem sizes_append (a b : Slots) : sizes (a ++ b) = sizes a + sizes b := by
  induction a with
  | nil => simp [sizes]
  | cons x a ih => simp [sizes, ih]; omega
theorem fieldsL_length (a : Nat) (l : Slots) : (fieldsL a l).length = 4 * l.length := by
  induction l generalizing a with
  | nil => rfl
  | cons x l ih => cases x <;> simp [fieldsL, two, ih] <;> omega
theorem recsL_length (l : Slots) : (recsL l).length = sizes l := by
  induction l with
  | nil => rfl
  | cons x l ih => simp [recsL, sizes, ih]; omega
theorem recsL_append (a b : Slots) : recsL (a ++ b) = recsL b ++ recsL a := by
  induction a with
  | nil => simp [recsL]
  | cons x a ih => simp [recsL, ih]
theorem fieldsL_append (a : Nat) (l m : Slots) : fieldsL a (l ++ m) = fieldsL a l ++ fieldsL (a - sizes l) m := by
  induction l generalizing a with
  | nil => simp [fieldsL, sizes]
  | cons x l ih =>
    cases x with
    | none => simp [fieldsL, sizes, ih]
    | some r => simp [fieldsL, sizes, ih, Nat.sub_sub]
theorem zeros_add (m n : Nat) : zeros (m + n) = zeros m ++ zeros n := by simp [zeros, List.replicate_append_replicate]
theorem zeros_length (n : Nat) : (zeros n).length = n := by simp [zeros]

theorem mid_length (n : Nat) (pre : Slots) (h : Fits pre) : (mid n pre).length = 512 := by
  unfold Fits at h
  simp [mid, two, fieldsL_length, zeros_length, recsL_length]
  omega
theorem body_length (l : Slots) (h : Fits l) : (body l).length = 504 := by
  unfold Fits at h
  simp [body, two, fieldsL_length, zeros_length, recsL_length]
  omega
theorem mid_all (l : Slots) (h : Fits l) : (mid l.length l).take 504 = body l ∧ mid l.length l = body l ++ zeros 8 := by
  have e : mid l.length l = body l ++ zeros 8 := by simp [mid, body]
  have hb := body_length l h
  exact ⟨by rw [e, ← hb, List.take_left], e⟩

theorem mid_nil (n : Nat) : mid n [] = two n ++ zeros 510 := by
  show two n ++ ([] ++ (zeros 502 ++ ([] ++ zeros 8))) = _
  rw [List.nil_append, List.nil_append, ← zeros_add]

/-- an empty slot: nothing is written. -/
theorem mid_none (n : Nat) (pre : Slots) (h : Fits (pre ++ [none])) : mid n (pre ++ [none]) = mid n pre := by
  unfold Fits at h
  rw [sizes_append] at h
  simp [sizes] at h
  unfold mid
  rw [fieldsL_append, recsL_append, sizes_append]
  have e : zeros (502 - 4 * pre.length - sizes pre) = zeros 4 ++ zeros (502 - 4 * (pre ++ [none]).length - (sizes pre + sizes [none])) := by
    rw [← zeros_add]
    congr 1
    simp [sizes]
    omega
  rw [e]
  simp [fieldsL, recsL, sizes, zeros, List.replicate]

theorem set_at {α : Type} (A B : List α) (x y : α) (n : Nat) (h : n = A.length) : (A ++ x :: B).set n y = A ++ y :: B := by
  subst h
  simp [List.set_append]

/-- what is laid over a row from a place on. -/
def over {α : Type} (L : List α) (off : Nat) (cs : List α) : List α := L.take off ++ (cs ++ L.drop (off + cs.length))
theorem over_mid {α : Type} (A Z B r : List α) (h : Z.length = r.length) : over (A ++ (Z ++ B)) A.length r = A ++ (r ++ B) := by
  unfold over
  rw [List.take_left, ← List.append_assoc A Z B, ← h, ← List.length_append, List.drop_left]

/-- a record: its place, its length, its bytes. -/
theorem mid_some (n : Nat) (pre : Slots) (r : List Int) (h : Fits (pre ++ [some r])) :
    over (((((mid n pre).set (2 + 4 * pre.length) (((504 - sizes pre - r.length : Nat) : Int) / 256 % 256)).set (2 + 4 * pre.length + 1) (((504 - sizes pre - r.length : Nat) : Int) % 256)).set (2 + 4 * pre.length + 2) ((r.length : Int) / 256 % 256)).set (2 + 4 * pre.length + 2 + 1) ((r.length : Int) % 256)) (504 - sizes pre - r.length) r
      = mid n (pre ++ [some r]) := by
  have hf := h
  unfold Fits at h
  rw [sizes_append] at h
  simp [sizes] at h
  obtain ⟨m, hm⟩ : ∃ m, 502 - 4 * pre.length - sizes pre = 4 + (m + r.length) := ⟨498 - 4 * pre.length - sizes pre - r.length, by omega⟩
  have e0 : mid n pre = (two n ++ fieldsL 504 pre) ++ (0 :: 0 :: 0 :: 0 :: (zeros m ++ (zeros r.length ++ (recsL pre ++ zeros 8)))) := by
    unfold mid
    rw [hm, zeros_add 4, zeros_add m]
    simp [show zeros 4 = [0, 0, 0, 0] from rfl]
  have hl : (two n ++ fieldsL 504 pre).length = 2 + 4 * pre.length := by simp [two, fieldsL_length]; omega
  have e2 : ((504 - sizes pre - r.length : Nat) : Int) / 256 = ((504 - sizes pre - r.length) / 256 : Nat) := by omega
  have e3 : ((r.length : Nat) : Int) / 256 = (r.length / 256 : Nat) := by omega
  rw [e2, e3]
  have key : ∀ (A B : List Int) (a b c d : Int) (k : Nat), A.length = k →
      ((((A ++ 0 :: 0 :: 0 :: 0 :: B).set k a).set (k + 1) b).set (k + 2) c).set (k + 2 + 1) d = (A ++ [a, b, c, d]) ++ B := by
    intro A B a b c d k hk
    rw [set_at A _ 0 a k hk.symm]
    rw [show A ++ a :: 0 :: 0 :: 0 :: B = (A ++ [a]) ++ 0 :: 0 :: 0 :: B by simp, set_at _ _ 0 b (k + 1) (by simp [hk])]
    rw [show (A ++ [a]) ++ b :: 0 :: 0 :: B = (A ++ [a, b]) ++ 0 :: 0 :: B by simp, set_at _ _ 0 c (k + 2) (by simp [hk])]
    rw [show (A ++ [a, b]) ++ c :: 0 :: B = (A ++ [a, b, c]) ++ 0 :: B by simp, set_at _ _ 0 d (k + 2 + 1) (by simp [hk])]
    simp
  rw [e0, key _ _ _ _ _ _ _ hl]
  have hA : ((two n ++ fieldsL 504 pre ++ [(((504 - sizes pre - r.length) / 256 : Nat) : Int) % 256, ((504 - sizes pre - r.length : Nat) : Int) % 256, ((r.length / 256 : Nat) : Int) % 256, ((r.length : Nat) : Int) % 256]) ++ zeros m).length = 504 - sizes pre - r.length := by
    rw [List.length_append, List.length_append, hl]
    simp [zeros_length]
    omega
  rw [← List.append_assoc _ (zeros m)]
  have ho := over_mid ((two n ++ fieldsL 504 pre ++ [(((504 - sizes pre - r.length) / 256 : Nat) : Int) % 256, ((504 - sizes pre - r.length : Nat) : Int) % 256, ((r.length / 256 : Nat) : Int) % 256, ((r.length : Nat) : Int) % 256]) ++ zeros m) (zeros r.length) (recsL pre ++ zeros 8) r (zeros_length _)
  rw [hA] at ho
  rw [ho]
  unfold mid
  rw [fieldsL_append, recsL_append, sizes_append]
  have em : 502 - 4 * (pre ++ [some r]).length - (sizes pre + sizes [some r]) = m := by
    simp [sizes]
    omega
  rw [em]
  simp [fieldsL, recsL, two, sizes]

/-! ### the eight bytes of the sum -/
def sum8 (b : List Int) (c : Int) : Nat → List Int
  | 0 => b ++ zeros 8
  | i + 1 => (sum8 b c i).set (504 + i) (byteAt c i)
theorem sum8_eq (b : List Int) (c : Int) (hb : b.length = 504) : ∀ i, i ≤ 8 → sum8 b c i = b ++ ((List.range i).map (byteAt c) ++ zeros (8 - i))
  | 0, _ => by simp [sum8]
  | i + 1, h => by
    rw [sum8, sum8_eq b c hb i (by omega)]
    rw [show 8 - i = 1 + (8 - (i + 1)) from by omega, zeros_add]
    rw [show b ++ ((List.range i).map (byteAt c) ++ (zeros 1 ++ zeros (8 - (i + 1)))) = (b ++ (List.range i).map (byteAt c)) ++ 0 :: zeros (8 - (i + 1)) by simp [zeros]]
    rw [set_at _ _ _ _ _ (by simp [hb])]
    rw [List.range_succ]
    simp
theorem sum8_all (b : List Int) (c : Int) (hb : b.length = 504) : sum8 b c 8 = b ++ eight c := by
  rw [sum8_eq b c hb 8 (Nat.le_refl _)]
  simp [eight, zeros]

theorem trim_fits {l : Slots} (h : Fits l) : Fits (trim l) := by
  have key : ∀ l : Slots, (trim l).length ≤ l.length ∧ sizes (trim l) ≤ sizes l := by
    intro l
    induction l with
    | nil => simp [trim, sizes]
    | cons x l ih =>
      cases ht : trim l with
      | nil => cases x <;> simp [trim, ht, sizes]
      | cons y m => rw [ht] at ih; simp [trim, ht, sizes] at ih ⊢; omega
  have := key l
  unfold Fits at *
  omega

end Go.Proofs.Ytbffeibcndbmgaa.Pg

/-! ## Opt -/
set_option linter.unusedVariables false
namespace Go.Proofs.Ytbffeibcndbmgaa.Pg
open Go.RowKit Go.Proofs.YtbffeibcndbmgaaW.PrintWords

theorem row_some {α : Type} {d : Kd α} {e : Nat} {w : World} {base : Nat} {ok : Nat → Prop} {v : Value} {xs : List α} (h : d.R e w base ok v xs) (hv : v ≠ .slice none 0 0) :
    ∃ g c, v = .slice (some ⟨g, 0, none⟩) xs.length c ∧ base ≤ g ∧ g < w.heap.size := by
  obtain ⟨_, inner, ho, _⟩ := h
  rcases ho.2 with ⟨h1, _⟩ | ⟨g, cap, cur, rfl, hg, hh, _⟩
  · exact absurd h1 hv
  · exact ⟨g, cap, rfl, hg, (Array.getElem?_eq_some_iff.1 hh).1⟩

/-- 'none': nil. 'some xs': a slice that is not nil. -/
def optK {α : Type} (e : Nat) (d : Kd α) : Kd (Option (List α)) where
  sz := 1
  E := e :: d.E
  K := fun w x cs => match x with
    | none => cs = [.slice none 0 0]
    | some xs => ∃ a c, cs = [.slice (some a) xs.length c] ∧ xs.length ≤ c ∧ d.C w (some a) xs.length xs
  M := fun w base ok x cs => match x with
    | none => cs = [.slice none 0 0]
    | some xs => ∃ v, cs = [v] ∧ v ≠ .slice none 0 0 ∧ d.R e w base ok v xs
  K_len := by
    intro w x cs h
    cases x with
    | none => rw [show cs = _ from h]; rfl
    | some xs => obtain ⟨a, c, rfl, _⟩ := h; rfl
  K_one := by
    intro w x cs h u hu
    cases x with
    | none => rw [show cs = _ from h] at hu; rw [List.mem_singleton.1 hu]; rfl
    | some xs => obtain ⟨a, c, rfl, _⟩ := h; rw [List.mem_singleton.1 hu]; rfl
  K_below := by
    intro w w1 x cs hb h
    cases x with
    | none => exact h
    | some xs => obtain ⟨a, c, rfl, hl, hr⟩ := h; exact ⟨a, c, rfl, hl, Kd.C_below hr hb⟩
  K_of_M := by
    intro w base ok x cs h
    cases x with
    | none => exact h
    | some xs =>
      obtain ⟨v, rfl, hv, h⟩ := h
      obtain ⟨g, c, rfl, _⟩ := row_some h hv
      obtain ⟨A, c', he, hl, hr⟩ := Kd.R_reads h
      injection he with h1 _ h2
      subst h1 h2
      exact ⟨_, _, rfl, hl, hr⟩
  M_mono := by
    intro w base ok ok' x cs hok h
    cases x with
    | none => exact h
    | some xs => obtain ⟨v, rfl, hv, h⟩ := h; exact ⟨v, rfl, hv, Kd.R_mono h hok⟩
  M_bound := by
    intro w base ok x cs h
    cases x with
    | none => exact h
    | some xs => obtain ⟨v, rfl, hv, h⟩ := h; exact ⟨v, rfl, hv, Kd.R_bound h⟩
  M_move := by
    intro w w1 base ok x cs hm h
    cases x with
    | none => exact h
    | some xs => obtain ⟨v, rfl, hv, h⟩ := h; exact ⟨v, rfl, hv, Kd.R_move h hm⟩
  M_lower := by
    intro w base base' ok x cs hb h
    cases x with
    | none => exact h
    | some xs => obtain ⟨v, rfl, hv, h⟩ := h; exact ⟨v, rfl, hv, Kd.R_lower h hb⟩

/-- Read without regard to nil. -/
theorem optK_plain {α : Type} {e : Nat} {d : Kd α} {w : World} {A : Option Addr} {n : Nat} {xs : List (Option (List α))} (h : (optK e d).C w A n xs) : (Kd.slice e d).C w A n (xs.map (·.getD [])) := by
  obtain ⟨h1, h2, h3⟩ := h
  refine ⟨by simpa using h1, h2, fun hn => ?_⟩
  obtain ⟨ad, rfl, hc⟩ := h3 hn
  refine ⟨ad, rfl, fun j p hj => ?_⟩
  rw [List.getElem?_map] at hj
  cases hx : xs[j]? with
  | none => rw [hx] at hj; cases hj
  | some x =>
    rw [hx] at hj
    obtain rfl : x.getD [] = p := by simpa using hj
    obtain ⟨c, hl, hK, hcell⟩ := hc j x hx
    refine ⟨c, hl, ?_, hcell⟩
    cases x with
    | none => exact ⟨none, 0, hK, Nat.le_refl _, ⟨rfl, by simp, fun h => absurd h (by simp)⟩⟩
    | some xs => obtain ⟨a, c, rfl, hl, hr⟩ := hK; exact ⟨some a, c, rfl, hl, hr⟩

end Go.Proofs.Ytbffeibcndbmgaa.Pg

/-! ## Two -/
set_option linter.unusedVariables false
set_option linter.unusedSimpArgs false
namespace Go.Proofs.Ytbffeibcndbmgaa.Pg
open Go.RowKit Go.Proofs.YtbffeibcndbmgaaW.PrintWords Go.Proofs.YtbffeibcndbmgaaW.PrintLast Go.Proofs.YtbffeibcndbmgaaW.PrintMore Go.Proofs.Ytbffeibcndbmgaa.PPageSteps

/-- block g is a row of bytes, xs. -/
def Blk (w : World) (g : Nat) (xs : List Int) : Prop := w.heap[g]? = some (.cells (nums .u8 xs).toArray 5 (0, 0))
theorem Blk.lt {w : World} {g : Nat} {xs : List Int} (h : Blk w g xs) : g < w.heap.size := blk_lt h
theorem Blk.cell {w : World} {g : Nat} {xs : List Int} (h : Blk w g xs) (i : Nat) (hi : i < xs.length) : w.cell? ⟨g, i, none⟩ = some (.int .u8 (xs.getD i 0)) := by
  rw [blk_cell h i]
  simp [nums, hi]
theorem Blk.frozen {w : World} {g : Nat} {xs : List Int} (h : Blk w g xs) (i : Nat) : w.frozen? ⟨g, i, none⟩ = false := blk_frozen h i
theorem Blk.set {w : World} {g : Nat} {xs : List Int} (h : Blk w g xs) (i : Nat) (v : Int) : Blk (w.setCell ⟨g, i, none⟩ (.int .u8 v)) g (xs.set i v) := by
  have := blk_set h i (.int .u8 v)
  unfold Blk
  rw [this]
  simp [nums, List.map_set]
theorem Blk.reads {w : World} {g : Nat} {xs : List Int} (h : Blk w g xs) (off n : Nat) (hn : off + n ≤ xs.length) (hm : n ≤ 9223372036854775807) : Kd.C (Kd.int .u8) w (some ⟨g, off, none⟩) n ((xs.drop off).take n) := by
  refine ⟨by simp; omega, hm, fun h0 => ⟨_, rfl, fun j p hj => ⟨[.int .u8 p], rfl, rfl, fun i u hu => ?_⟩⟩⟩
  have hj' := (List.getElem?_eq_some_iff.1 hj).1
  have hi : i = 0 ∧ u = .int .u8 p := by
    cases i with
    | zero => simp at hu; exact ⟨rfl, hu.symm⟩
    | succ i => simp at hu
  obtain ⟨rfl, rfl⟩ := hi
  have e : (⟨g, off, none⟩ : Addr).add (j * (Kd.int .u8).sz + 0) = ⟨g, off + j, none⟩ := by
    show (⟨g, off, none⟩ : Addr).add (j * 1 + 0) = _
    rw [Nat.mul_one, Nat.add_zero]
    unfold Addr.add
    split <;> simp_all
  have hlen : j < n := by simp at hj'; omega
  rw [e, h.cell (off + j) (by omega)]
  rw [List.getElem?_take, if_pos hlen, List.getElem?_drop] at hj
  simp [List.getD_eq_getElem?_getD, hj]

theorem reps_nums {k : IntKind} {w : World} {base : Nat} {ok : Nat → Prop} (xs : List Int) : Reps ((Kd.int k).M w base ok) (Kd.int k).sz xs (nums k xs) := by
  refine ⟨by show (nums k xs).length = xs.length * 1; rw [nums_length]; omega, fun j p hj => ?_⟩
  have hl := (List.getElem?_eq_some_iff.1 hj).1
  have hp := (List.getElem?_eq_some_iff.1 hj).2
  show ((nums k xs).drop (j * 1)).take 1 = [.int k p]
  rw [Nat.mul_one, List.drop_eq_getElem_cons (by rw [nums_length]; exact hl)]
  simp [nums, hp]
theorem blk_R {w : World} {g B : Nat} {xs : List Int} (h : Blk w g xs) (hB : B ≤ g) (n : Nat) (hn : xs.length = n) (hm : n ≤ 9223372036854775807) : Kd.R (Kd.int .u8) 5 w B (fun _ => True) (.slice (some ⟨g, 0, none⟩) n n) xs := by
  subst hn
  refine ⟨fun _ _ => trivial, nums .u8 xs, ⟨?_, .inr ⟨g, xs.length, (nums .u8 xs).toArray, rfl, hB, h, Nat.le_refl _, by simpa [maxLen] using hm, ?_, ?_⟩⟩, reps_nums xs⟩
  · show (nums .u8 xs).length = xs.length * 1
    rw [nums_length]; omega
  · show (nums .u8 xs).toArray.size = xs.length * 1
    simp [nums_length]
  · show (nums .u8 xs).toArray.toList.take (xs.length * 1) = nums .u8 xs
    rw [Nat.mul_one, ← nums_length .u8 xs]
    simp

set_option maxHeartbeats 1000000 in
set_option maxRecDepth 100000 in
theorem two_any (w0 w : World) (B g off len cap : Nat) (n : Int) (xs : List Int) (h2 : 2 ≤ len) (ho : off + 1 < xs.length) (hl : len ≤ 9223372036854775807) (hb : Blk w g xs) (hB : Below B w0 w) (hg : B ≤ g) :
    Calls Try.prog 38 #[.slice (some ⟨g, off, none⟩) len cap, .int .i64 n] w fun e w' => e = .returned (.tuple #[]) ∧ Aside0 (Blk w' g ((xs.set off (n / 256 % 256)).set (off + 1) (n % 256))) ∧ Aside0 (Below B w0 w') := by
  have hc0 := hb.cell off (by omega)
  have hf0 := hb.frozen off
  have hb1 := hb.set off (n / 256 % 256)
  have hc1 := hb.cell (off + 1) ho
  have hf1 := hb.frozen (off + 1)
  have hb2 := hb1.set (off + 1) (n % 256)
  have HB := Aside0.mk ((hB.setCell (p := ⟨g, off, none⟩) hg (.int .u8 (n / 256 % 256))).setCell (p := ⟨g, off + 1, none⟩) hg (.int .u8 (n % 256)))
  have HB2 := Aside0.mk hb2
  clear hb hb1 hb2 hB
  have q0 : (0 : Int) < (len : Int) := by omega
  have q1 : (1 : Int) < (len : Int) := by omega
  go_enter Try.func38, Try.ntmps38
  go_wp2
  first | go_end0 | ((try simp only [Exit.inBlock, Exit.then]); refine bodyPost_ret (results_none rfl _ _ _) rfl ?_)
  exact ⟨rfl, HB2, HB⟩

end Go.Proofs.Ytbffeibcndbmgaa.Pg

/-! ## Page -/
set_option linter.unusedVariables false
set_option linter.unusedSimpArgs false
namespace Go.Proofs.Ytbffeibcndbmgaa.Pg
open Go.RowKit Go.Proofs.YtbffeibcndbmgaaW.PrintWords Go.Proofs.YtbffeibcndbmgaaW.PrintLast Go.Proofs.YtbffeibcndbmgaaW.PrintMore Go.Proofs.Ytbffeibcndbmgaa.PPageSteps

theorem slice_from (g off len cap : Nat) (i : Int) (j : Nat) (hij : i = j) (h : j ≤ len) (hc : j < cap) (W : World) :
    (Instr.slice 22 (.slice (some ⟨g, off, none⟩) len cap) (some (.int .i64 i)) none none).run Try.prog W = .ok (.slice (some ⟨g, off + j, none⟩) (len - j) (cap - j)) W := by
  subst hij
  obtain ⟨i0, hi, _, hsz, _⟩ := info_parts info5
  have hu : Try.prog.underlying 22 = some (.slice (Try.prog.elem 22)) := by rw [show Try.prog.elem 22 = 5 by simp [Program.elem, Try.underlying22]]; exact Try.underlying22
  rw [run_slice_l W 22 _ len cap hu .i64 (j : Int) (by omega) (by omega)]
  rw [show Try.prog.elem 22 = 5 by simp [Program.elem, Try.underlying22]]
  have hne : cap ≠ j := by omega
  have ha : (⟨g, off, none⟩ : Addr).add j = ⟨g, off + j, none⟩ := by unfold Addr.add; split <;> simp_all
  simp [sizeOf, typeInfo, hi, hsz, sliced, Result.andThen, hne, ha]
theorem slice_four (g off len cap : Nat) (h : 4 ≤ cap) (W : World) :
    (Instr.slice 22 (.slice (some ⟨g, off, none⟩) len cap) none (some (.int .i64 4)) (some (.int .i64 4))).run Try.prog W = .ok (.slice (some ⟨g, off, none⟩) 4 4) W := by
  obtain ⟨i0, hi, _, hsz, _⟩ := info_parts info5
  have hu : Try.prog.underlying 22 = some (.slice (Try.prog.elem 22)) := by rw [show Try.prog.elem 22 = 5 by simp [Program.elem, Try.underlying22]]; exact Try.underlying22
  rw [run_slice_hm W 22 _ len cap hu .i64 .i64 4 4 (by omega) (by omega) (by omega)]
  rw [show Try.prog.elem 22 = 5 by simp [Program.elem, Try.underlying22]]
  simp [sizeOf, typeInfo, hi, hsz, sliced, Result.andThen, Addr.add]
theorem slice_to (g off len cap : Nat) (i : Int) (j : Nat) (hij : i = j) (h : j ≤ cap) (W : World) :
    (Instr.slice 22 (.slice (some ⟨g, off, none⟩) len cap) none (some (.int .i64 i)) none).run Try.prog W = .ok (.slice (some ⟨g, off, none⟩) j cap) W := by
  subst hij
  obtain ⟨i0, hi, _, hsz, _⟩ := info_parts info5
  have hu : Try.prog.underlying 22 = some (.slice (Try.prog.elem 22)) := by rw [show Try.prog.elem 22 = 5 by simp [Program.elem, Try.underlying22]]; exact Try.underlying22
  rw [run_slice_h W 22 _ len cap hu .i64 (j : Int) (by omega) (by omega)]
  rw [show Try.prog.elem 22 = 5 by simp [Program.elem, Try.underlying22]]
  simp [sizeOf, typeInfo, hi, hsz, sliced, Result.andThen, Addr.add]
/-- a cut of slots at the end. -/
theorem slice_slots (A : Option Addr) (len cap : Nat) (i : Int) (j : Nat) (hij : i = j) (h : j ≤ cap) (W : World) :
    (Instr.slice 52 (.slice A len cap) none (some (.int .i64 i)) none).run Try.prog W = .ok (.slice A j cap) W := by
  subst hij
  have hu1 : Try.prog.underlying 52 = some (.slice 22) := by kernel_rfl
  have hel : Try.prog.elem 52 = 22 := by simp [Program.elem, hu1]
  have hu : Try.prog.underlying 52 = some (.slice (Try.prog.elem 52)) := by rw [hel]; exact hu1
  have hsz1 : ∀ w, (sizeOf 22).run Try.prog w = .ok 1 w := fun w => by kernel_rfl
  rw [run_slice_h W 52 _ len cap hu .i64 (j : Int) (by omega) (by omega), hel, hsz1]
  cases A <;> simp [sliced, Result.andThen, Addr.add]

/-- a slot of slots that are read. -/
theorem at_opt {w : World} {A : Option Addr} {n : Nat} {l : Slots} (h : (optK 5 (Kd.int .u8)).C w A n l) (i : Nat) (h1 : i < n) :
    ∃ ad, A = some ad ∧ ((l.getD i none = none ∧ w.cell? (ad.add i) = some (.slice none 0 0)) ∨ ∃ r a c, l.getD i none = some r ∧ w.cell? (ad.add i) = some (.slice (some a) r.length c) ∧ r.length ≤ c ∧ (Kd.int .u8).C w (some a) r.length r) := by
  obtain ⟨ad, c, rfl, hl, hK, hc⟩ := Kd.C_get h none (i : Int) (by omega) (by omega)
  rw [Int.toNat_natCast] at hK hc
  refine ⟨ad, rfl, ?_⟩
  cases hx : l.getD i none with
  | none =>
    rw [hx] at hK
    obtain rfl : c = [.slice none 0 0] := hK
    have := hc 0 _ rfl
    rw [show i * (optK 5 (Kd.int .u8)).sz + 0 = i from by show i * 1 + 0 = i; omega] at this
    exact .inl ⟨rfl, this⟩
  | some r =>
    rw [hx] at hK
    obtain ⟨a, c', rfl, hlc, hC⟩ := hK
    have := hc 0 _ rfl
    rw [show i * (optK 5 (Kd.int .u8)).sz + 0 = i from by show i * 1 + 0 = i; omega] at this
    exact .inr ⟨r, a, c', rfl, this, hlc, hC⟩

theorem trim_snoc_none (l : Slots) : trim (l ++ [none]) = trim l := by
  induction l with
  | nil => rfl
  | cons x l ih => simp [trim, ih]
theorem trim_snoc_some (l : Slots) (r : List Int) : trim (l ++ [some r]) = l ++ [some r] := by
  induction l with
  | nil => rfl
  | cons x l ih =>
    rw [List.cons_append, trim.eq_def]
    simp only [ih]
    cases l <;> rfl
theorem take_snoc (l : Slots) (k : Nat) (hk : k < l.length) : l.take (k + 1) = l.take k ++ [l.getD k none] := by
  rw [List.take_succ_eq_append_getElem hk, List.getD_eq_getElem?_getD, List.getElem?_eq_getElem hk]
  rfl
theorem fits_take {t : Slots} (h : Fits t) (j : Nat) : Fits (t.take j) := by
  have h1 : sizes t = sizes (t.take j) + sizes (t.drop j) := by rw [← sizes_append, List.take_append_drop]
  have h2 : (t.take j).length ≤ t.length := by rw [List.length_take]; omega
  unfold Fits at *
  omega
theorem size_u8 : (Try.prog.info? 5).map (·.size) = some 1 := by kernel_rfl
theorem nums_one (k : IntKind) (xs : List Int) : ∀ v ∈ nums k xs, v.oneCell' = true := by
  intro v hv
  obtain ⟨x, _, rfl⟩ := List.mem_map.1 hv
  rfl
theorem C_cells {k : IntKind} {w : World} {a : Addr} {n : Nat} {xs : List Int} (h : (Kd.int k).C w (some a) n xs) : ∀ j v, (nums k xs)[j]? = some v → w.cell? (a.add j) = some v := by
  intro j v hv
  have hj : j < xs.length := by have := (List.getElem?_eq_some_iff.1 hv).1; rwa [nums_length] at this
  obtain ⟨ad, he, hc⟩ := Kd.at_int h (j : Int) (by omega) (by have := h.1; omega)
  injection he with he
  subst he
  rw [Int.toNat_natCast] at hc
  rw [hc]
  simp [nums, hj] at hv
  rw [← hv]
  simp [rd, hj]
theorem blk_splice {w : World} {g off : Nat} {xs r : List Int} (h : w.heap[g]? = some (.cells (splice (nums .u8 xs) off (nums .u8 r)).toArray 5 (0, 0))) : Blk w g (over xs off r) := by
  unfold Blk
  rw [h]
  simp [splice, over, nums, List.map_take, List.map_drop]
theorem sum_any (w : World) (A0 : Option Addr) (n c0 : Nat) (l : List Int) (hl : l.length = n) (hn : n ≤ 4611686018427387904) (hc : n ≤ c0) (hb : Bytes l) (hr : Kd.C (Kd.int .u8) w A0 n l) :
    Calls Try.prog 39 #[.slice A0 n c0] w fun e w' => e = .returned (.int .u64 (crc l)) ∧ Drawn0 w w' := by
  subst hl
  exact codec_Sum.calls _ A0 c0 l (crc l) w hr hc (sumP l hb (by omega))
theorem bytes_two (n : Nat) : Bytes (two n) := by
  intro x hx
  simp [two] at hx
  omega
theorem bytes_append {a b : List Int} (ha : Bytes a) (hb : Bytes b) : Bytes (a ++ b) := fun x hx => (List.mem_append.1 hx).elim (ha x) (hb x)
theorem bytes_zeros (n : Nat) : Bytes (zeros n) := fun x hx => by rw [(List.mem_replicate.1 hx).2]; omega
theorem bytes_fields : ∀ (a : Nat) (l : Slots), Bytes (fieldsL a l)
  | _, [] => fun x hx => by simp [fieldsL] at hx
  | a, none :: l => by
    have h := bytes_fields a l
    intro x hx
    simp [fieldsL] at hx
    rcases hx with rfl | hx
    · omega
    · exact h x hx
  | a, some r :: l => by
    rw [fieldsL]
    exact bytes_append (bytes_two _) (bytes_append (bytes_two _) (bytes_fields _ l))
theorem bytes_recs : ∀ {l : Slots}, (∀ r, some r ∈ l → Bytes r) → Bytes (recsL l)
  | [], _ => fun x hx => by simp [recsL] at hx
  | y :: l, h => by
    rw [recsL]
    refine bytes_append (bytes_recs fun r hr => h r (List.mem_cons_of_mem _ hr)) ?_
    cases y with
    | none => exact fun x hx => by simp at hx
    | some r => exact h r List.mem_cons_self
theorem bytes_body {l : Slots} (h : ∀ r, some r ∈ l → Bytes r) : Bytes (body l) :=
  bytes_append (bytes_two _) (bytes_append (bytes_fields _ _) (bytes_append (bytes_zeros _) (bytes_recs h)))
def lenOf : Value → Nat
  | .slice _ n _ => n
  | _ => 0

theorem made_zeros (n : Nat) : madeCells (Value.int .u8 0).cells (n * 1) = (nums .u8 (zeros n)).toArray := by
  apply Array.ext
  · simp [madeCells, nums, zeros]
  · intro i h1 h2
    simp [madeCells, nums, zeros, Value.cells, Nat.mod_one]
theorem blk_made {w w1 : World} {base : Nat} (h : w1.ownsRow base 5 1 (.slice (some ⟨w.heap.size, 0, none⟩) 512 512) 512 (madeCells (Value.int .u8 0).cells (512 * 1)).toList) : Blk w1 w.heap.size (zeros 512) := by
  rcases h.2 with ⟨h1, _⟩ | ⟨g, cap, cur, he, _, hh, _, _, hs, ht⟩
  · cases h1
  · injection he with e1 _ e2
    injection e1 with e1
    injection e1 with e1
    subst e1 e2
    unfold Blk
    rw [hh]
    rw [List.take_of_length_le (by simp; omega)] at ht
    have e : cur = (madeCells (Value.int .u8 0).cells (512 * 1)) := by
      apply Array.ext'
      exact ht
    rw [e]
    rw [made_zeros]

theorem mid_start (k : Nat) (h : k < 65536) : ((zeros 512).set 0 ((k : Int) / 256 % 256)).set (0 + 1) ((k : Int) % 256) = mid k [] := by
  rw [mid_nil]
  have : zeros 512 = 0 :: 0 :: zeros 510 := rfl
  rw [this]
  show ((k : Int) / 256 % 256) :: ((k : Int) % 256) :: zeros 510 = ((k / 256 : Nat) : Int) % 256 :: ((k : Int) % 256) :: zeros 510
  rw [show ((k / 256 : Nat) : Int) = (k : Int) / 256 from by omega]

end Go.Proofs.Ytbffeibcndbmgaa.Pg

/-! ## WPure -/
set_option linter.unusedVariables false
set_option linter.unusedSimpArgs false
namespace Go.Proofs.Ytbffeibcndbmgaa.Pg
open Go.RowKit Go.Proofs.YtbffeibcndbmgaaW.PrintWords Go.Proofs.YtbffeibcndbmgaaW.PrintLast Go.Proofs.YtbffeibcndbmgaaW.PrintMore Go.Proofs.Ytbffeibcndbmgaa.GW

def toS (l : List S59) : Slots := l.map fun x => if x.f1 = true then some x.f0 else none
theorem toS_length (l : List S59) : (toS l).length = l.length := by simp [toS]
theorem toS_get (l : List S59) (i : Nat) (h : i < l.length) : (toS l).getD i none = if (rd_T59 l (i : Int)).f1 = true then some (rd_T59 l (i : Int)).f0 else none := by
  unfold toS rd_T59
  rw [Int.toNat_natCast, List.getD_eq_getElem?_getD, List.getElem?_map, List.getD_eq_getElem?_getD, List.getElem?_eq_getElem h]
  rfl

theorem two_f (n : Nat) (h : n ≤ 100000) : longstopref12_two.f (n : Int) = some (two n) := by
  unfold longstopref12_two.f two
  rw [Int.tdiv_eq_ediv_of_nonneg (by omega), Int.tmod_eq_emod_of_nonneg (by omega)]
  have e1 : wrap64 ((n : Int) / 256) = (n : Int) / 256 := by unfold wrap64; omega
  rw [e1]
  have e2 : ((n / 256 : Nat) : Int) = (n : Int) / 256 := by omega
  rw [e2]
  have e3 : (n : Int) % 256 % 256 = (n : Int) % 256 := by omega
  rw [e3]
theorem two_length (n : Nat) : (two n).length = 2 := rfl

theorem w_l2 (c : Int) (b : List Int) (hb : b.length = 504) : ∀ q, q ≤ 8 → longstopref12_write.l2 (q + 1) (b ++ (List.range (8 - q)).map (byteAt c)) c (8 * (q : Int) - 8) = some (b ++ eight c)
  | 0, _ => by
    rw [longstopref12_write.l2, if_neg (by omega)]
    rfl
  | q + 1, h => by
    rw [longstopref12_write.l2, if_pos (by omega)]
    have e0 : (8 * ((q + 1 : Nat) : Int) - 8) = ((8 * q : Nat) : Int) := by omega
    rw [e0]
    have e1 : IntKind.u64.wrap ((8 * q : Nat) : Int) = ((8 * q : Nat) : Int) := by
      have hq : q < 8 := by omega
      have key : ∀ m : Fin 8, IntKind.u64.wrap ((8 * m.val : Nat) : Int) = ((8 * m.val : Nat) : Int) := by decide
      exact key ⟨q, hq⟩
    rw [e1, if_pos (by omega), if_pos (by simp [hb]; omega)]
    have e2 : (shr .u64 c ((8 * q : Nat) : Int)) % 256 = byteAt c (8 - (q + 1)) := by
      unfold shr byteAt
      rw [Int.toNat_natCast, Nat.min_eq_left (by show 8 * q ≤ 64; omega), show 56 - 8 * (8 - (q + 1)) = 8 * q from by omega, Int.natCast_pow]
      rfl
    rw [e2]
    have e3 : wrap64 (((8 * q : Nat) : Int) - 8) = 8 * (q : Int) - 8 := by unfold wrap64; omega
    rw [e3]
    have e4 : (b ++ (List.range (8 - (q + 1))).map (byteAt c)) ++ [byteAt c (8 - (q + 1))] = b ++ (List.range (8 - q)).map (byteAt c) := by
      rw [show 8 - q = (8 - (q + 1)) + 1 from by omega, List.range_succ]
      simp
    rw [e4]
    exact w_l2 c b hb q (by omega)

theorem sizes_take_le2 (s : Slots) (k : Nat) : sizes (s.take k) ≤ sizes s := by
  have : sizes s = sizes (s.take k) + sizes (s.drop k) := by rw [← sizes_append, List.take_append_drop]
  omega

theorem l1_some (k : Nat) (l : List S59) (x3 x4 r : List Int) (Z j : Nat) (hj : j < l.length) (h1 : (rd_T59 l (j : Int)).f1 = true) (hr : (rd_T59 l (j : Int)).f0 = r) (hZ : Z + r.length ≤ 504) (h3 : x3.length ≤ 1000) (h4 : x4.length ≤ 1000) (hl : j ≤ 1000) :
    longstopref12_write.l1 (k + 1) l x3 x4 ((504 - Z : Nat) : Int) (j : Int) = longstopref12_write.l1 k l ((x3 ++ two (504 - Z - r.length)) ++ two r.length) (([] ++ r) ++ x4) ((504 - Z - r.length : Nat) : Int) ((j + 1 : Nat) : Int) := by
  have hw : wrap64 ((j : Int) + 1) = ((j + 1 : Nat) : Int) := by unfold wrap64; omega
  have e1 : wrap64 (((504 - Z : Nat) : Int) - (r.length : Int)) = ((504 - Z - r.length : Nat) : Int) := by unfold wrap64; omega
  have q1 : (j : Int) < (l.length : Int) := by omega
  have q2 : 0 ≤ (j : Int) := by omega
  have q3 : x3.length + (two (504 - Z - r.length)).length < 140737488355328 := by rw [two_length]; omega
  have q4 : (x3 ++ two (504 - Z - r.length)).length + (two r.length).length < 140737488355328 := by rw [List.length_append, two_length, two_length]; omega
  have q5 : ([] : List Int).length + r.length < 140737488355328 := by rw [List.length_nil]; omega
  have q6 : (([] : List Int) ++ r).length + x4.length < 140737488355328 := by rw [List.nil_append]; omega
  rw [longstopref12_write.l1, if_pos q1, if_pos q2, if_pos h1, hr, e1, two_f _ (by omega), Option.bind_some, if_pos q3, Option.bind_some, two_f _ (by omega), Option.bind_some, if_pos q4, Option.bind_some, if_pos q5, Option.bind_some, if_pos q6, hw]
theorem l1_none (k : Nat) (l : List S59) (x3 x4 : List Int) (x5 : Int) (j : Nat) (hj : j < l.length) (h1 : ¬ (rd_T59 l (j : Int)).f1 = true) (h3 : x3.length ≤ 100000) (hl : j ≤ 1000) :
    longstopref12_write.l1 (k + 1) l x3 x4 x5 (j : Int) = longstopref12_write.l1 k l (x3 ++ [0, 0, 0, 0]) x4 x5 ((j + 1 : Nat) : Int) := by
  have hw : wrap64 ((j : Int) + 1) = ((j + 1 : Nat) : Int) := by unfold wrap64; omega
  have q1 : (j : Int) < (l.length : Int) := by omega
  have q2 : 0 ≤ (j : Int) := by omega
  have q3 : x3.length + ([0, 0, 0, 0] : List Int).length < 140737488355328 := by simp only [List.length_cons, List.length_nil]; omega
  rw [longstopref12_write.l1, if_pos q1, if_pos q2, if_neg h1, Option.bind_some, if_pos q3, hw]
theorem l1_end (k : Nat) (l : List S59) (x3 x4 b : List Int) (Z m : Nat) (h3 : x3.length + m = 504 - Z) (hm : m ≤ 504) (hb : x3 ++ List.replicate m 0 ++ x4 = b) (h4 : x4.length ≤ 1000) (h3' : x3.length ≤ 1000) (hB : Bytes b) (hl : b.length = 504) :
    longstopref12_write.l1 (k + 10) l x3 x4 ((504 - Z : Nat) : Int) (l.length : Int) = longstopref12_write.l2 (k + 9) b (crc b) 56 := by
  have e2 : wrap64 (((504 - Z : Nat) : Int) - (x3.length : Int)) = (m : Int) := by unfold wrap64; omega
  have q1 : ¬ (l.length : Int) < (l.length : Int) := by omega
  have q2 : 0 ≤ (m : Int) := by omega
  have q3 : x3.length + m < 140737488355328 := by omega
  have q4 : (x3 ++ List.replicate m (0 : Int)).length + x4.length < 140737488355328 := by rw [List.length_append, List.length_replicate]; omega
  have e4 : longstopref01_Sum.f b = some (crc b) := by
    unfold longstopref01_Sum.f
    rw [if_pos ⟨bytesB_iff.2 hB, by omega⟩]
  rw [longstopref12_write.l1, if_neg q1, e2, if_pos q2, Int.toNat_natCast, if_pos q3, Option.bind_some, if_pos q4, Option.bind_some, hb, e4, Option.bind_some]

/-- between two rounds. -/
def stB (l : List S59) (j : Nat) : List Int := two l.length ++ fieldsL 504 ((toS l).take j)
theorem stB_length (l : List S59) (j : Nat) (h : j ≤ l.length) : (stB l j).length = 2 + 4 * j := by
  have hlt : ((toS l).take j).length = j := by rw [List.length_take, toS_length]; exact Nat.min_eq_left h
  unfold stB
  rw [List.length_append, two_length, fieldsL_length, hlt]
theorem w_l1 (l : List S59) (hf : Fits (toS l)) (hb : ∀ r, some r ∈ toS l → Bytes r) : ∀ n j, j + n = l.length →
    longstopref12_write.l1 (n + 10) l (stB l j) (recsL ((toS l).take j)) ((504 - sizes ((toS l).take j) : Nat) : Int) (j : Int) = some (body (toS l) ++ eight (crc (body (toS l)))) := by
  have hF := Aside0.mk hf
  have hB := Aside0.mk hb
  have hl : 4 * l.length + sizes (toS l) ≤ 502 := by
    unfold Fits at hf
    rw [toS_length] at hf
    omega
  clear hf hb
  intro n
  induction n with
  | zero =>
    intro j h
    obtain rfl : j = l.length := by omega
    have ht : (toS l).take l.length = toS l := List.take_of_length_le (by rw [toS_length]; exact Nat.le_refl _)
    have hst := stB_length l l.length (Nat.le_refl _)
    have hbl := body_length _ hF.out
    have e3 : stB l l.length ++ List.replicate (502 - 4 * l.length - sizes (toS l)) (0 : Int) ++ recsL (toS l) = body (toS l) := by
      unfold body stB zeros
      rw [toS_length, ht]
      simp
    have hrl : (recsL (toS l)).length ≤ 1000 := by rw [recsL_length]; omega
    rw [ht]
    rw [l1_end 0 l (stB l l.length) (recsL (toS l)) (body (toS l)) (sizes (toS l)) (502 - 4 * l.length - sizes (toS l)) (by rw [hst]; omega) (by omega) e3 hrl (by rw [hst]; omega) (bytes_body hB.out) hbl]
    have h8 := w_l2 (crc (body (toS l))) (body (toS l)) hbl 8 (by omega)
    simpa using h8
  | succ n IH =>
    intro j h
    have hj : j < l.length := by omega
    have ih := Aside0.mk (IH (j + 1) (by omega))
    clear IH
    have hst := stB_length l j (by omega)
    have hs := take_snoc (toS l) j (by rw [toS_length]; exact hj)
    have hg := toS_get l j hj
    have hz := sizes_take_le2 (toS l) j
    have hz1 := sizes_take_le2 (toS l) (j + 1)
    have hr1 : (recsL ((toS l).take j)).length ≤ 1000 := by rw [recsL_length]; omega
    rw [show n + 1 + 10 = (n + 10) + 1 from by omega]
    by_cases hsome : (rd_T59 l (j : Int)).f1 = true
    · rw [if_pos hsome] at hg
      obtain ⟨r, hr⟩ : ∃ r, r = (rd_T59 l (j : Int)).f0 := ⟨_, rfl⟩
      rw [← hr] at hg
      rw [hg] at hs
      rw [hs, sizes_append] at hz1
      simp only [sizes, Option.getD_some, Nat.add_zero] at hz1
      rw [l1_some (n + 10) l _ _ r (sizes ((toS l).take j)) j hj hsome hr.symm (by omega) (by rw [hst]; omega) hr1 (by omega)]
      have ih' := ih.out
      unfold stB at ih'
      rw [hs, fieldsL_append, recsL_append, sizes_append] at ih'
      simp only [fieldsL, recsL, sizes, Option.getD_some, Nat.add_zero, List.nil_append, List.append_nil, List.append_assoc] at ih'
      rw [show 504 - (sizes ((toS l).take j) + r.length) = 504 - sizes ((toS l).take j) - r.length from by rw [Nat.sub_sub]] at ih'
      unfold stB
      simp only [List.nil_append, List.append_assoc]
      exact ih'
    · rw [if_neg hsome] at hg
      rw [hg] at hs
      rw [l1_none (n + 10) l _ _ _ j hj hsome (by rw [hst]; omega) (by omega)]
      have ih' := ih.out
      unfold stB at ih'
      rw [hs, fieldsL_append, recsL_append, sizes_append] at ih'
      simp only [fieldsL, recsL, sizes, Option.getD_none, List.length_nil, Nat.add_zero, List.nil_append, List.append_nil, List.append_assoc] at ih'
      unfold stB
      simp only [List.append_assoc]
      exact ih'

theorem w_j1 (l : List S59) (hf : Fits (toS l)) (hb : ∀ r, some r ∈ toS l → Bytes r) : longstopref12_write.j1 (l.length + 11) l = some (body (toS l) ++ eight (crc (body (toS l)))) := by
  have hf3 := hf
  unfold Fits at hf3
  rw [toS_length] at hf3
  rw [longstopref12_write.j1, two_f _ (by omega), Option.bind_some]
  have h := w_l1 l hf hb l.length 0 (by omega)
  simpa [stB, fieldsL, recsL, sizes] using h

theorem w_l0 : ∀ (n : Nat) (l : List S59), l.length = n → Fits (toS l) → (∀ r, some r ∈ toS l → Bytes r) → ∃ k, longstopref12_write.l0 k l = some (pageL (toS l))
  | 0, l, h, hf, hb => by
    obtain rfl : l = [] := List.eq_nil_of_length_eq_zero h
    refine ⟨12, ?_⟩
    rw [longstopref12_write.l0, if_neg (by simp)]
    exact w_j1 [] hf hb
  | n + 1, l, h, hf, hb => by
    have hf3 := hf
    unfold Fits at hf3
    rw [toS_length] at hf3
    have hw : wrap64 ((l.length : Int) - 1) = (n : Int) := by unfold wrap64; omega
    have ht : toS l = (toS l).take n ++ [(toS l).getD n none] := by
      rw [← take_snoc (toS l) n (by rw [toS_length]; omega), List.take_of_length_le (by rw [toS_length]; omega)]
    have hg := toS_get l n (by omega)
    have htk : toS (l.take n) = (toS l).take n := by simp [toS, List.map_take]
    by_cases hsome : (rd_T59 l (n : Int)).f1 = true
    · refine ⟨l.length + 12, ?_⟩
      rw [longstopref12_write.l0, hw, if_pos (by omega), if_pos (by omega), if_pos (by omega), if_pos hsome]
      rw [if_pos hsome] at hg
      rw [hg] at ht
      have e : trim (toS l) = toS l := by
        have := trim_snoc_some ((toS l).take n) (rd_T59 l (n : Int)).f0
        rw [← ht] at this
        exact this
      rw [w_j1 l hf hb]
      unfold pageL
      rw [e]
    · rw [if_neg hsome] at hg
      rw [hg] at ht
      have e : trim (toS l) = trim (toS (l.take n)) := by
        have := trim_snoc_none ((toS l).take n)
        rw [← ht] at this
        rw [this, htk]
      have hf2 := fits_take hf n
      rw [← htk] at hf2
      obtain ⟨k, hk⟩ := w_l0 n (l.take n) (by rw [List.length_take]; omega) hf2 (fun r hr => hb r (by rw [htk] at hr; exact List.mem_of_mem_take hr))
      refine ⟨k + 1, ?_⟩
      rw [longstopref12_write.l0, hw, if_pos (by omega), if_pos (by omega), if_pos (by omega), if_neg hsome, if_pos (by omega), Int.toNat_natCast, hk]
      unfold pageL
      rw [e]

theorem w_write (l : List S59) (hf : Fits (toS l)) (hb : ∀ r, some r ∈ toS l → Bytes r) : ∃ k, longstopref12_write.f k l = some (pageL (toS l)) :=
  w_l0 l.length l rfl hf hb

end Go.Proofs.Ytbffeibcndbmgaa.Pg

/-! ## Write -/
set_option linter.unusedVariables false
set_option linter.unusedSimpArgs false
namespace Go.Proofs.Ytbffeibcndbmgaa.Pg
open Go.RowKit Go.Proofs.YtbffeibcndbmgaaW.PrintWords Go.Proofs.YtbffeibcndbmgaaW.PrintLast Go.Proofs.YtbffeibcndbmgaaW.PrintMore

abbrev kP : Kd (List Int × Bool) := Kd.pair (Kd.slice 5 (Kd.int .u8)) Kd.bool
def toP (l : List (List Int × Bool)) : Slots := l.map fun x => if x.2 = true then some x.1 else none
def fitsB (l : Slots) : Bool := decide (2 + 4 * l.length + sizes l ≤ 504)
theorem fitsB_iff {l : Slots} : fitsB l = true ↔ Fits l := by simp [fitsB, Fits]
def recB (l : Slots) : Bool := l.all fun x => bytesB (x.getD [])
theorem recB_iff {l : Slots} : recB l = true ↔ ∀ r, some r ∈ l → Bytes r := by
  unfold recB
  rw [List.all_eq_true]
  constructor
  · intro h r hr
    exact bytesB_iff.1 (h _ hr)
  · intro h x hx
    cases x with
    | none => rfl
    | some r => exact bytesB_iff.2 (h r hx)
/-- what 'write' makes of slots that have room. -/
def writeP (l : List (List Int × Bool)) : Option (List Int) := if fitsB (toP l) = true ∧ recB (toP l) = true then some (pageL (toP l)) else none

theorem C_map {α β : Type} {d : Kd α} {d' : Kd β} (f : α → β) (hs : d'.sz = d.sz) (hK : ∀ {w : World} (x : α) (cs : List Value), d.K w x cs → d'.K w (f x) cs) {w : World} {A : Option Addr} {n : Nat} {xs : List α} (h : d.C w A n xs) : d'.C w A n (xs.map f) := by
  obtain ⟨h1, h2, h3⟩ := h
  refine ⟨by simpa using h1, h2, fun hn => ?_⟩
  obtain ⟨ad, rfl, hc⟩ := h3 hn
  refine ⟨ad, rfl, fun j p hj => ?_⟩
  rw [List.getElem?_map] at hj
  cases hx : xs[j]? with
  | none => rw [hx] at hj; cases hj
  | some x =>
    rw [hx] at hj
    obtain rfl : f x = p := by simpa using hj
    obtain ⟨c, hl, hk, hcell⟩ := hc j x hx
    refine ⟨c, by rw [hs]; exact hl, hK x c hk, fun i u hu => ?_⟩
    rw [hs]
    exact hcell i u hu

theorem heap59 : Kd.Heap GW.k59 := Kd.heap_iso _ (Kd.heap_pair (Kd.heap_slice _ (Kd.heap_int _)) Kd.heap_bool)
theorem write_calls (A0 : Option Addr) (c0 : Nat) (l0 : List (List Int × Bool)) (r : List Int) (w : World) (hr0 : Kd.C kP w A0 l0.length l0) (hc0 : l0.length ≤ c0) (h : writeP l0 = some r) :
    Calls Try.prog 31 #[.slice A0 l0.length c0] w fun e w' => ∃ v0_ : Value, e = .returned (v0_) ∧ Kd.R (Kd.int .u8) 5 w' w.heap.size (fun _ => True) v0_ r ∧ Below w.heap.size w w' := by
  unfold writeP at h
  split at h
  · rename_i hc
    obtain rfl := Option.some.inj h
    obtain ⟨l, hl⟩ : ∃ l : List GW.S59, l = l0.map fun x => ⟨x.1, x.2⟩ := ⟨_, rfl⟩
    have hlen : l0.length = l.length := by rw [hl, List.length_map]
    have hS : toS l = toP l0 := by
      rw [hl]
      unfold toS toP
      rw [List.map_map]
      rfl
    obtain ⟨k, hk⟩ := w_write l (by rw [hS]; exact fitsB_iff.1 hc.1) (by rw [hS]; exact recB_iff.1 hc.2)
    have hC : Kd.C GW.k59 w A0 l.length l := by
      have h1 := C_map (d := kP) (d' := GW.k59) (fun x => (⟨x.1, x.2⟩ : GW.S59)) rfl (fun _ _ h => h) hr0
      rw [← hl, hlen] at h1
      exact h1
    rw [hlen] at hc0 ⊢
    rw [hS] at hk
    refine (GW.longstopref12_write.calls k (fun k_ => k_ < w.heap.size) A0 c0 l _ w (Kd.V_mk hc0 (Kd.C_F heap59 hC)) hk).mono ?_
    rintro e w' ⟨v, he, hR, hB⟩
    exact ⟨v, he, Kd.R_mono hR (fun _ _ => trivial), hB⟩
  · cases h

end Go.Proofs.Ytbffeibcndbmgaa.Pg

/-! ## GRefx0 -/
namespace Go.Proofs.Ytbffeibcndbmgaa.GRef
open Go.RowKit Go.Proofs.YtbffeibcndbmgaaW.PrintWords Go.Proofs.YtbffeibcndbmgaaW.PrintLast Go.Proofs.YtbffeibcndbmgaaW.PrintMore
attribute [local go_sem] max2_int min2_int max_two min_two max_three min_three max_four min_four   -- for this text's walks alone
set_option linter.unusedVariables false
set_option linter.unusedSimpArgs false



def errW : Option Int → Value
  | none => .nilIface
  | some c => .iface 0 (.int .i64 c)
theorem errW_none : errW none = .nilIface := rfl
theorem errW_some (c : Int) : errW (some c) = .iface 0 (.int .i64 c) := rfl

theorem info5 : (Try.prog.info? 5).map (fun i => (i.zero, i.size, i.bytes)) = some (some (.int .u8 0), 1, 1) := by kernel_rfl
theorem info59 : (Try.prog.info? 59).map (fun i => (i.zero, i.size, i.bytes)) = some (some (.agg #[(.slice none 0 0), (.bool false)]), 2, 32) := by kernel_rfl
-- the values' own types
def rd_L1 (xs : List (List Int)) (i : Int) : (List Int) := xs.getD i.toNat ([] : List Int)
theorem at_L1 {w : World} {A : Option Addr} {n : Nat} {xs : List (List Int)} (h : Kd.C (Kd.slice 5 (Kd.int .u8)) w A n xs) (i : Int) (h0 : 0 ≤ i) (h1 : i < n) : ∃ ad A0 c0, A = some ad ∧ w.cell? (ad.add i.toNat) = some (.slice A0 (rd_L1 xs i).length c0) ∧ (rd_L1 xs i).length ≤ c0 ∧ (Kd.int .u8).C w A0 (rd_L1 xs i).length (rd_L1 xs i) := by
  obtain ⟨ad, c, e, _, hK, hc0⟩ := Kd.C_get h ([] : List Int) i h0 h1
  have hc : ∀ j u, c[j]? = some u → w.cell? (ad.add (i.toNat * 1 + j)) = some u := hc0
  obtain ⟨A0, c0, rfl, l0, g0⟩ := hK
  exact ⟨ad, A0, c0, e, by have hq := hc 0 _ rfl; rwa [Nat.mul_one, Nat.add_zero] at hq, l0, g0⟩

/-! #### struct type 59 -/
structure S59 where
  f0 : (List Int)
  f1 : Bool
def z59 : S59 := ⟨([] : List Int), false⟩
def k59 : Kd S59 := Kd.iso (Kd.pair (Kd.slice 5 (Kd.int .u8)) Kd.bool) (fun x : S59 => (x.f0, x.f1))
theorem k59_heap : Kd.Heap k59 := Kd.heap_iso _ (Kd.heap_pair (Kd.heap_slice 5 (Kd.heap_int .u8)) Kd.heap_bool)
theorem k59_open {w : World} {x : S59} {cs : List Value} (h : k59.K w x cs) : ∃ A0 c0, cs = [.slice A0 x.f0.length c0, .bool x.f1] ∧ x.f0.length ≤ c0 ∧ (Kd.int .u8).C w A0 x.f0.length x.f0 := by
  obtain ⟨_, _, rfl, ⟨A0, c0, rfl, l0, g0⟩, rfl⟩ := h
  exact ⟨A0, c0, rfl, l0, g0⟩
theorem k59_openM {w : World} {base : Nat} {ok : Nat → Prop} {x : S59} {cs : List Value} (h : k59.M w base ok x cs) : ∃ v0, cs = [v0, .bool x.f1] ∧ (Kd.int .u8).R 5 w base ok v0 x.f0 := by
  obtain ⟨_, _, rfl, ⟨v0, rfl, g0⟩, rfl⟩ := h
  exact ⟨v0, rfl, g0⟩
theorem k59_mk (w : World) (x : S59) {A0 : Option Addr} {c0 : Nat} (l0 : x.f0.length ≤ c0) (g0 : (Kd.int .u8).C w A0 x.f0.length x.f0) : k59.K w x [.slice A0 x.f0.length c0, .bool x.f1] := ⟨[.slice A0 x.f0.length c0], [.bool x.f1], rfl, ⟨A0, c0, rfl, l0, g0⟩, rfl⟩
theorem k59_mkM (w : World) (base : Nat) (ok : Nat → Prop) (x : S59) {v0 : Value} (g0 : (Kd.int .u8).R 5 w base ok v0 x.f0) : k59.M w base ok x [v0, .bool x.f1] := ⟨[v0], [.bool x.f1], rfl, ⟨v0, rfl, g0⟩, rfl⟩
theorem k59_openF {W : World} {ok : Nat → Prop} {x : S59} {cs : List Value} (h : Kd.FK k59 W ok x cs) : ∃ A0 c0, cs = [.slice A0 x.f0.length c0, .bool x.f1] ∧ x.f0.length ≤ c0 ∧ Kd.F (Kd.int .u8) W ok A0 x.f0.length x.f0 := by
  obtain ⟨A0, c0, rfl, l0, _⟩ := k59_open (Kd.FK_now h)
  exact ⟨A0, c0, rfl, l0, (fun W' hW => by obtain ⟨A0_, c0_, he, l0_, g0_⟩ := k59_open (h W' hW); injection (Option.some.inj (show some (Value.slice A0 x.f0.length c0) = some (Value.slice A0_ x.f0.length c0_) from congrArg (fun l => l[0]?) he)) with ha_ _ _; rw [ha_]; exact g0_)⟩
theorem k59_mkF (W : World) (ok : Nat → Prop) (x : S59) {A0 : Option Addr} {c0 : Nat} (l0 : x.f0.length ≤ c0) (g0 : Kd.F (Kd.int .u8) W ok A0 x.f0.length x.f0) : Kd.FK k59 W ok x [.slice A0 x.f0.length c0, .bool x.f1] := fun W2 hW => k59_mk W2 x l0 (g0 W2 hW)
def rd_T59 (xs : List S59) (i : Int) : S59 := xs.getD i.toNat z59
theorem at_T59 {w : World} {A : Option Addr} {n : Nat} {xs : List S59} (h : Kd.C k59 w A n xs) (i : Int) (h0 : 0 ≤ i) (h1 : i < n) : ∃ ad A0 c0, A = some ad ∧ w.cell? (ad.add (i.toNat * 2)) = some (.slice A0 (rd_T59 xs i).f0.length c0) ∧ w.cell? ⟨(ad.add (i.toNat * 2)).block, (ad.add (i.toNat * 2)).off + 1, none⟩ = some (.bool (rd_T59 xs i).f1) ∧ (rd_T59 xs i).f0.length ≤ c0 ∧ (Kd.int .u8).C w A0 (rd_T59 xs i).f0.length (rd_T59 xs i).f0 := by
  obtain ⟨ad, c, e, _, hK, hc0⟩ := Kd.C_get h z59 i h0 h1
  have hc : ∀ j u, c[j]? = some u → w.cell? (ad.add (i.toNat * 2 + j)) = some u := hc0
  obtain ⟨A0, c0, rfl, l0, g0⟩ := k59_open hK
  exact ⟨ad, A0, c0, e, hc 0 _ rfl, by rw [← add_field _ _ 1 (by omega)]; exact hc 1 _ rfl, l0, g0⟩

def rd_L5 (xs : List (List S59)) (i : Int) : (List S59) := xs.getD i.toNat ([] : List S59)
theorem at_L5 {w : World} {A : Option Addr} {n : Nat} {xs : List (List S59)} (h : Kd.C (Kd.slice 59 k59) w A n xs) (i : Int) (h0 : 0 ≤ i) (h1 : i < n) : ∃ ad A0 c0, A = some ad ∧ w.cell? (ad.add i.toNat) = some (.slice A0 (rd_L5 xs i).length c0) ∧ (rd_L5 xs i).length ≤ c0 ∧ k59.C w A0 (rd_L5 xs i).length (rd_L5 xs i) := by
  obtain ⟨ad, c, e, _, hK, hc0⟩ := Kd.C_get h ([] : List S59) i h0 h1
  have hc : ∀ j u, c[j]? = some u → w.cell? (ad.add (i.toNat * 1 + j)) = some u := hc0
  obtain ⟨A0, c0, rfl, l0, g0⟩ := hK
  exact ⟨ad, A0, c0, e, by have hq := hc 0 _ rfl; rwa [Nat.mul_one, Nat.add_zero] at hq, l0, g0⟩

end Go.Proofs.Ytbffeibcndbmgaa.GRef

/-! ## GRefx1 -/
namespace Go.Proofs.Ytbffeibcndbmgaa.GRef
open Go.RowKit Go.Proofs.YtbffeibcndbmgaaW.PrintWords Go.Proofs.YtbffeibcndbmgaaW.PrintLast Go.Proofs.YtbffeibcndbmgaaW.PrintMore
attribute [local go_sem] max2_int min2_int max_two min_two max_three min_three max_four min_four   -- for this text's walks alone
set_option linter.unusedVariables false
set_option linter.unusedSimpArgs false

/-! ### longstoplaw01_Lent: function 6 -/
-- told elsewhere

/-! ### page_Get: function 7 -/
-- told elsewhere

/-! ### longstopref12_room: function 29 -/
def longstopref12_room.l0 : Nat → List (S59) → Int → Int → Option (Int)
  | 0, _, _, _ => none
  | k + 1, x0, x3, x4 => if x4 < (x0.length : Int) then (if 0 ≤ x4 then (longstopref12_room.l0 k x0 (wrap64 (x3 - (((rd_T59 x0 x4).f0).length : Int))) (wrap64 (x4 + 1))) else (none)) else (some x3)
def longstopref12_room.f (k : Nat) (l0 : List (S59)) : Option (Int) := longstopref12_room.l0 k l0 (wrap64 (502 - (wrap64 (4 * (l0.length : Int))))) 0
theorem longstopref12_room.mono_l : ∀ k, (∀ y0 y1 y2, LeO (longstopref12_room.l0 k y0 y1 y2) (longstopref12_room.l0 (k + 1) y0 y1 y2))
  | 0 => fun _ _ _ r h => by simp [longstopref12_room.l0] at h
  | k + 1 => by
    have ih0 := longstopref12_room.mono_l k
    · intro y0 y1 y2
      unfold longstopref12_room.l0
      repeat' first
      | (with_reducible exact ih0 _ _ _)
      | (with_reducible exact LeO.refl _)
      | (with_reducible exact LeO.none _)
      | (with_reducible refine LeO.ite ?_ ?_)
      | (with_reducible refine LeO.bind ?_ (fun _ => ?_))
      | exact ih0 _ _ _
      | exact LeO.none _
      | refine LeO.ite ?_ ?_
      | refine LeO.bind ?_ (fun _ => ?_)
theorem longstopref12_room.mono : ∀ a0 k, LeO (longstopref12_room.f k a0) (longstopref12_room.f (k + 1) a0) := by
  intro a0 k
  have ih0 := longstopref12_room.mono_l k
  unfold longstopref12_room.f
  repeat' first
      | (with_reducible exact ih0 _ _ _)
      | (with_reducible exact LeO.refl _)
      | (with_reducible exact LeO.none _)
      | (with_reducible refine LeO.ite ?_ ?_)
      | (with_reducible refine LeO.bind ?_ (fun _ => ?_))
      | exact ih0 _ _ _
      | exact LeO.none _
      | refine LeO.ite ?_ ?_
      | refine LeO.bind ?_ (fun _ => ?_)
set_option maxHeartbeats 8000000 in
set_option maxRecDepth 100000 in
theorem longstopref12_room.calls (k : Nat) (A0 : Option Addr) (c0 : Nat) (l0 : List (S59)) (r : Int) (w : World) (hr0 : Kd.C k59 w A0 l0.length l0) (hc0 : l0.length ≤ c0) (h : longstopref12_room.f k l0 = some r) :
    Calls Try.prog 29 #[.slice A0 l0.length c0] w fun e w' => e = .returned (.int .i64 r) ∧ Drawn0 w w' := by
  have HR0 := Aside0.mk hr0
  have HC0 := Aside0.mk hc0
  clear hr0 hc0
  have H : (longstopref12_room.l0 k l0 (wrap64 (502 - (wrap64 (4 * (l0.length : Int))))) 0) = some r := h
  clear h
  have H' := Aside0.mk H
  clear H
  go_enter Try.func29, Try.ntmps29
  go_wp2
  go_loopg [3, 4] k (fun kq v3 v4 w' => ∃ (x3_1 : Int) (x4_1 : Int), v3 = .int .i64 x3_1 ∧ v4 = .int .i64 x4_1 ∧ Aside0 (longstopref12_room.l0 kq l0 x3_1 x4_1 = some r) ∧ Aside0 (kq ≤ k) ∧ Drawn0 w w')
  case atStart => exact ⟨(wrap64 (502 - (wrap64 (4 * (l0.length : Int))))), (0), (by first | rfl | (simp; done) | (simp [*]; done)), (by first | rfl | (simp; done) | (simp [*]; done)), H', ⟨Nat.le_refl _⟩, by repeat (first | exact Drawn0.refl _ | apply Drawn0.step)⟩
  case round =>
    clear H'
    obtain ⟨x3_1, x4_1, rfl, rfl, HA, HK1, ⟨m1, rfl⟩⟩ := hrel
    cases gk with
    | zero => exact absurd HA.out (by simp [longstopref12_room.l0])
    | succ k1 =>
      have H := HA.out
      clear HA
      simp only [longstopref12_room.l0] at H
      by_cases c2 : x4_1 < (l0.length : Int)
      · rw [if_pos c2] at H
        have c2b0 : decide (x4_1 < (l0.length : Int)) = true := decide_eq_true c2
        clear c2
        by_cases c3 : 0 ≤ x4_1
        · rw [if_pos c3] at H
          have c3b0 : decide (0 ≤ x4_1) = true := decide_eq_true c3
          clear c3
          have H' := Aside0.mk H
          clear H
          have p101 : 0 ≤ (x4_1 : Int) := of_decide_eq_true (by first | (with_reducible assumption) | assumption)
          have q101 : x4_1 < (l0.length : Int) := of_decide_eq_true (by first | (with_reducible assumption) | assumption)
          obtain ⟨ad101, A101_0, c101_0, e101, hx101_0, hx101_1, hl101_0, hi101_0⟩ := at_T59 HR0.out x4_1 p101 q101
          cases e101
          have HR101_0 := Aside0.mk hi101_0
          have HC101_0 := Aside0.mk hl101_0
          clear hi101_0 hl101_0
          replace p101 := eq_true p101
          replace q101 := eq_true q101
          go_wp2
          go_roundg k1
          case measure => have := HK1.out; omega
          case rel => exact ⟨(wrap64 (x3_1 - (((rd_T59 l0 x4_1).f0).length : Int))), (wrap64 (x4_1 + 1)), (by first | rfl | (simp; done) | (simp [*]; done)), (by first | rfl | (simp; done) | (simp [*]; done)), H', ⟨by have := HK1.out; omega⟩, by repeat (first | exact Drawn0.refl _ | apply Drawn0.step)⟩
        · rw [if_neg c3] at H
          exact absurd H (by simp)
      · rw [if_neg c2] at H
        have c2b0 : decide (x4_1 < (l0.length : Int)) = false := decide_eq_false c2
        clear c2
        obtain rfl := Option.some.inj H
        go_wp2
        go_ret
        exact ⟨by first | rfl | (simp; done) | (simp [*]; done), by repeat (first | exact Drawn0.refl _ | apply Drawn0.step)⟩

/-! ### longstopref12_write: function 31 -/
def longstopref12_write.f (l0 : List (S59)) : Option (List Int) := Pg.writeP (l0.map fun x => (x.f0, x.f1))
theorem longstopref12_write.calls (A0 : Option Addr) (c0 : Nat) (l0 : List (S59)) (r : List Int) (w : World) (hr0 : Kd.C k59 w A0 l0.length l0) (hc0 : l0.length ≤ c0) (h : longstopref12_write.f l0 = some r) :
    Calls Try.prog 31 #[.slice A0 l0.length c0] w fun e w' => ∃ v0_ : Value, e = .returned (v0_) ∧ Kd.R (Kd.int .u8) 5 w' w.heap.size (fun _ => True) v0_ r ∧ Below w.heap.size w w' := by
  have hl : l0.length = (l0.map fun x => (x.f0, x.f1)).length := by rw [List.length_map]
  have h1 : Kd.C Pg.kP w A0 (l0.map fun x => (x.f0, x.f1)).length (l0.map fun x => (x.f0, x.f1)) := by
    rw [← hl]
    exact Pg.C_map (d := k59) (d' := Pg.kP) (fun x => (x.f0, x.f1)) rfl (fun _ _ h => h) hr0
  rw [hl] at hc0 ⊢
  exact Pg.write_calls A0 c0 _ r w h1 hc0 h

end Go.Proofs.Ytbffeibcndbmgaa.GRef

/-! ## PageWalk -/
set_option linter.unusedVariables false
set_option linter.unusedSimpArgs false
namespace Go.Proofs.Ytbffeibcndbmgaa.Pg
open Go.RowKit Go.Proofs.YtbffeibcndbmgaaW.PrintWords Go.Proofs.YtbffeibcndbmgaaW.PrintLast Go.Proofs.YtbffeibcndbmgaaW.PrintMore Go.Proofs.Ytbffeibcndbmgaa.PPageSteps

set_option maxHeartbeats 4000000 in
set_option maxRecDepth 100000 in
theorem page_any (w : World) (A : Option Addr) (n c : Nat) (l : Slots) (hC : (optK 5 (Kd.int .u8)).C w A n l) (hc : n ≤ c) (hfit : Fits l) (hby : ∀ r, some r ∈ l → Bytes r) :
    Calls Try.prog 30 #[.slice A n c] w fun e w' => ∃ v, e = .returned v ∧ Aside0 (Kd.R (Kd.int .u8) 5 w' w.heap.size (fun _ => True) v (pageL l)) ∧ Aside0 (Below w.heap.size w w') := by
  have hln : l.length = n := hC.1
  have hn : n ≤ 125 := by unfold Fits at hfit; omega
  have HC := Aside0.mk hC
  have HL := Aside0.mk hln
  have hc2 : c ≤ c := Nat.le_refl _
  have hsn := fun (w : World) (a : Option Addr) (n c : Nat) => Lib.run_eql_slice_nil (P := Try.prog) w 22 5 a n c 0 0 Try.underlying22
  have hsl := slice_slots A
  clear hC hln
  go_enter Try.func30, Try.ntmps30
  go_upto_block 0 with fail
  go_cut [0] (fun s wx => ∃ k : Nat, k ≤ n ∧ s = .slice A k c ∧ Aside0 (l.take k = trim l) ∧ wx = w)
  case first =>
    go_wp2_with fail
    go_loop [0] (fun s => ∃ k : Nat, k ≤ n ∧ s = .slice A k c ∧ Aside0 (trim (l.take k) = trim l)) (fun s => lenOf s)
    case atStart => exact ⟨n, Nat.le_refl _, rfl, ⟨by rw [← HL.out, List.take_length]⟩⟩
    case round =>
      obtain ⟨k, hk, rfl, HT⟩ := hrel
      cases k with
      | zero =>
        go_wp2
        go_meet
        exact ⟨0, hk, rfl, ⟨by rw [← HT.out]; rfl⟩, rfl⟩
      | succ k =>
        obtain ⟨ad, rfl, h⟩ := at_opt HC.out k (by omega)
        rcases h with ⟨hx, hcell⟩ | ⟨r, a, cc, hx, hcell, hlc, hr⟩
        · have HX := Aside0.mk hx
          clear hx
          go_wp2
          go_round
          case rel => exact ⟨k, by omega, rfl, ⟨by rw [← HT.out, take_snoc l k (by have := HL.out; omega), HX.out, trim_snoc_none]⟩⟩
          case measure => simp [lenOf]
        · have HX := Aside0.mk hx
          clear hx
          go_wp2
          go_meet
          exact ⟨k + 1, hk, rfl, ⟨by rw [← HT.out, take_snoc l k (by have := HL.out; omega), HX.out, trim_snoc_some]⟩, rfl⟩
  case rest =>
    obtain ⟨k, hk, rfl, HT, rfl⟩ := hcut
    obtain ⟨i0, hi, hz0, hz1, hz2⟩ := info_parts info5
    have HC2 : Aside0 ((optK 5 (Kd.int .u8)).C wc A k (trim l)) := ⟨by
      have h := Kd.C_take (m := k) (by rw [HL.out]; exact HC.out) (by rw [HL.out]; exact hk)
      have e : (l.take k).length = k := by rw [List.length_take, HL.out]; omega
      rw [e, HT.out] at h
      exact h⟩
    go_wp2_with (at_make; refine wpList_make_full _ rfl _ _ 22 rfl wc.heap.size 5 i0 (.int .u8 0) 1 Try.underlying22 hi hz0 hz1 _ _ _ _ 512 rfl rfl rfl rfl (by rw [hz2]; omega) (by simp [maxLen]) (Nat.le_refl _) ?_; intro w1 hown hgrow)
    have HB1 : Below wc.heap.size wc w1 := (Below.refl _ wc).grown hgrow (Nat.le_refl _) (fun _ e => by cases e)
    have hb0 := blk_made hown
    clear hown hgrow hi hz0 hz1 hz2
    refine (two_any wc w1 wc.heap.size wc.heap.size 0 512 512 (k : Int) (zeros 512) (by omega) (by rw [zeros_length]; omega) (by omega) hb0 HB1 (Nat.le_refl _)).mono ?_
    rintro e w2 ⟨rfl, HBK, HB⟩
    rw [mid_start k (by omega)] at HBK
    clear hb0 HB1
    have HFT : Aside0 (Fits (trim l)) := ⟨trim_fits hfit⟩
    have HTL : Aside0 ((trim l).length = k) := ⟨by rw [← HT.out, List.length_take, HL.out]; omega⟩
    have HBY : Aside0 (∀ r, some r ∈ trim l → Bytes r) := ⟨fun r hr => hby r (List.mem_of_mem_take (by rw [HT.out]; exact hr))⟩
    obtain ⟨t, ht⟩ : ∃ t, t = trim l := ⟨_, rfl⟩
    rw [← ht] at HC2 HFT HTL HBY
    have HTT := Aside0.mk ht
    clear ht HT HC hby
    go_wp2_with fail
    go_loopw [4, 34] (fun a i wr => ∃ j m : Nat, j ≤ k ∧ m ≤ 504 ∧ i = .int .i64 j ∧ a = .int .i64 (m : Int) ∧ Aside0 (m = 504 - sizes (t.take j)) ∧ Aside0 (Blk wr wc.heap.size (mid k (t.take j))) ∧ Aside0 (Below wc.heap.size wc wr)) (fun _ i _ => k - (intOf i).toNat)
    case atStart => exact ⟨0, 504, Nat.zero_le _, Nat.le_refl _, rfl, rfl, ⟨rfl⟩, HBK, HB⟩
    case round =>
      clear HBK HB
      obtain ⟨j, m, hj, hm, rfl, rfl, HM, HBK, HB⟩ := hrel
      by_cases hlt : j < k
      · obtain ⟨ad, rfl, h⟩ := at_opt HC2.out j hlt
        have HS := Aside0.mk (take_snoc t j (by rw [HTL.out]; exact hlt))
        rcases h with ⟨hx, hcell0⟩ | ⟨r, a, cc, hx, hcell0, hlc, hr⟩
        all_goals
          have hcell := pw_cell_below HB.out hcell0
          clear hcell0
        · rw [hx] at HS
          have HF2 := Aside0.mk (fits_take HFT.out (j + 1))
          rw [HS.out] at HF2
          have HBK2 := Aside0.mk (mid_none k (t.take j) HF2.out)
          clear hx
          go_wp2
          go_roundw
          case rel => exact ⟨j + 1, m, by omega, hm, by go_num, rfl, ⟨by rw [HS.out, sizes_append, HM.out]; rfl⟩, ⟨by rw [HS.out, HBK2.out]; exact HBK.out⟩, HB⟩
          case measure => simp [intOf]; omega
        · rw [hx] at HS
          have HF2 := Aside0.mk (fits_take HFT.out (j + 1))
          rw [HS.out] at HF2
          have hrm : r.length ≤ m := by
            have h1 := HF2.out
            unfold Fits at h1
            rw [sizes_append] at h1
            simp only [sizes, Option.getD_some] at h1
            rw [HM.out]
            omega
          have hjt : (t.take j).length = j := by rw [List.length_take, HTL.out]; omega
          have HJT := Aside0.mk hjt
          have hst := slice_from wc.heap.size 0 512 512 ((m : Int) - r.length) (m - r.length) (by omega) (by omega)
          have hml : (mid k (t.take j)).length = 512 := mid_length _ _ (fits_take HFT.out j)
          have HML := Aside0.mk hml
          have HR := Aside0.mk hr
          have hpos : m - r.length < 512 ∨ r.length = 0 := by omega
          clear hx hjt hml hr
          go_wp2_with fail
          refine (two_any wc wr wc.heap.size wc.heap.size (2 + 4 * j) 4 4 _ _ (by omega) (by rw [HML.out]; omega) (by omega) HBK.out HB.out (Nat.le_refl _)).mono ?_
          rintro e w3 ⟨rfl, HBK3, HB3⟩
          go_wp2_with fail
          refine (two_any wc w3 wc.heap.size wc.heap.size (2 + 4 * j + 2) 2 2 _ _ (by omega) (by simp [HML.out]; omega) (by omega) HBK3.out HB3.out (Nat.le_refl _)).mono ?_
          rintro e w4 ⟨rfl, HBK4, HB4⟩
          obtain ⟨X4, hX4, HBK5⟩ : ∃ X4, X4 = (((((mid k (t.take j)).set (2 + 4 * j) (((m : Int) - r.length) / 256 % 256)).set (2 + 4 * j + 1) (((m : Int) - r.length) % 256)).set (2 + 4 * j + 2) ((r.length : Int) / 256 % 256)).set (2 + 4 * j + 2 + 1) ((r.length : Int) % 256)) ∧ Aside0 (Blk w4 wc.heap.size X4) := ⟨_, rfl, HBK4⟩
          have hl4 : X4.length = 512 := by rw [hX4]; simp [HML.out]
          have HL4 := Aside0.mk hl4
          have HX4 := Aside0.mk hX4
          have HSRC := Aside0.mk (C_cells (Kd.C_below HR.out HB4.out))
          clear hl4 hX4 HBK4 HBK3 HB3
          go_wp2_with ((with_reducible refine gate_builtin (b := .copy) (xs := #[.tmp 61, .tmp 62]) rfl ?_); refine wpList_copy_splice rfl (.tmp 61) (.tmp 62) 22 22 rfl 5 Try.underlying22 size_u8 _ _ _ _ _ _ rfl rfl wc.heap.size (m - r.length) (nums .u8 X4) 5 HBK5.out (nums .u8 r) (by rw [nums_length]; exact (Nat.min_eq_left (by omega)).symm) (fun _ => ⟨by simp, _, rfl, HSRC.out⟩) (by rw [nums_length, nums_length, HL4.out]; omega) (nums_one _ _) wc.heap.size wc HB4.out (Nat.le_refl _) ?_; intro w5 hblk hB5; have HBK6 := Aside0.mk (show Blk w5 wc.heap.size (over X4 (m - r.length) r) from blk_splice hblk.out); have HB5 := Aside0.mk hB5; clear hblk hB5)
          go_roundw
          case rel =>
            refine ⟨j + 1, m - r.length, by omega, by omega, by go_num, congrArg (Value.int .i64) (by omega), ⟨?_⟩, ⟨?_⟩, HB5⟩
            · rw [HS.out, sizes_append, HM.out]
              simp only [sizes, Option.getD_some]
              omega
            · have h1 := mid_some k (t.take j) r HF2.out
              rw [HJT.out, show 504 - sizes (t.take j) - r.length = m - r.length from by rw [HM.out], Int.ofNat_sub hrm] at h1
              have h2 := HBK6.out
              rw [HX4.out] at h2
              rw [HS.out, ← h1]
              exact h2
          case measure => simp [intOf]; omega
      · obtain rfl : j = k := by omega
        have hbt : (t.take j) = t := List.take_of_length_le (by rw [HTL.out]; exact Nat.le_refl _)
        rw [hbt] at HBK
        have hbl := body_length t HFT.out
        have hsum := sum_any wr (some ⟨wc.heap.size, 0, none⟩) 504 512 (body t) hbl (by omega) (by omega) (bytes_body HBY.out) (by
          have h1 := (HBK.out).reads 0 504 (by rw [mid_length j t HFT.out]; omega) (by omega)
          have h2 := (mid_all t HFT.out).1
          rw [HTL.out] at h2
          rw [List.drop_zero, h2] at h1
          exact h1)
        have HSUM := Aside0.mk hsum
        have HBL := Aside0.mk hbl
        have hcr := crc_range (body t)
        have HBK7 : Aside0 (Blk wr wc.heap.size (sum8 (body t) (crc (body t)) 0)) := ⟨by
          have h2 := (mid_all t HFT.out).2
          rw [HTL.out] at h2
          have h1 := HBK.out
          rw [h2] at h1
          exact h1⟩
        obtain ⟨C, hC⟩ : ∃ C, C = crc (body t) := ⟨_, rfl⟩
        rw [← hC] at HSUM hcr HBK7
        have HCC := Aside0.mk hC
        clear hbt hbl hsum hC HBK
        go_wp2_with fail
        refine HSUM.out.mono ?_
        rintro e w6 ⟨rfl, ⟨nq, rfl⟩⟩
        have HBK8 : Aside0 (Blk (wr.drewN nq) wc.heap.size (sum8 (body t) C 0)) := ⟨HBK7.out⟩
        have HB8 : Aside0 (Below wc.heap.size wc (wr.drewN nq)) := ⟨pw_below_drewN HB.out nq⟩
        clear HSUM HBK7 HB
        obtain ⟨w7, hw7⟩ : ∃ w7, w7 = wr.drewN nq := ⟨_, rfl⟩
        rw [← hw7] at HBK8 HB8 ⊢
        clear hw7
        go_wp2_with fail
        go_loopw [68] (fun i wr => ∃ q : Nat, q ≤ 8 ∧ i = .int .i64 q ∧ Aside0 (Blk wr wc.heap.size (sum8 (body t) C q)) ∧ Aside0 (Below wc.heap.size wc wr)) (fun i _ => 8 - (intOf i).toNat)
        case atStart => exact ⟨0, Nat.zero_le _, rfl, HBK8, HB8⟩
        case round =>
          clear HBK8 HB8
          obtain ⟨q, hq, rfl, HBQ, HB⟩ := hrel
          by_cases hlt : q < 8
          · have hl8 : (sum8 (body t) C q).length = 512 := by
              rw [sum8_eq _ _ HBL.out q hq]
              simp [HBL.out, zeros_length]
              omega
            have hcc := HBQ.out.cell (504 + q) (by rw [hl8]; omega)
            have hcf := HBQ.out.frozen (504 + q)
            clear hl8
            go_wp2
            go_roundw
            case rel =>
              refine ⟨q + 1, by omega, by go_num, ⟨?_⟩, ⟨HB.out.setCell (p := ⟨wc.heap.size, 504 + q, none⟩) (Nat.le_refl _) _⟩⟩
              have h1 := HBQ.out.set (504 + q) (C / 2 ^ (56 - 8 * q) % 256)
              have e : byteAt C q = C / 2 ^ (56 - 8 * q) % 256 := by unfold byteAt; rw [Int.natCast_pow]; rfl
              rw [sum8, e]
              exact h1
            case measure => simp [intOf]; omega
          · obtain rfl : q = 8 := by omega
            go_wp2
            go_ret
            refine ⟨_, rfl, ⟨?_⟩, HB⟩
            have h1 := blk_R HBQ.out (Nat.le_refl _) 512 (by rw [sum8_all _ _ HBL.out]; simp [HBL.out, eight]) (by omega)
            rw [sum8_all _ _ HBL.out, HCC.out, HTT.out] at h1
            exact h1

end Go.Proofs.Ytbffeibcndbmgaa.Pg
