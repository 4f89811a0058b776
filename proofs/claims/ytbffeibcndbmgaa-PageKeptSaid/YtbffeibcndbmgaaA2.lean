/- Part 2 of 3 of the proofs about pages that the claims of this seat share: contracts of the functions and the lists they compute; their conditions stand in each lemma. -/
import Derived.Test.YtbffeibcndbmgaaA1
import Derived.RangeFuncNested
import Derived.RangeFuncBound
import Derived.RangeFuncCalls
import Derived.RangeFuncLeaves
import Derived.RangeFuncBox
import Derived.RangeFuncWrites
import Derived.Shelf.Abstract
import Derived.Shelf.RegionOpen
import Derived.WalkKit
import Derived.OwnWalkIn
import Derived.TacticsInMore
import Derived.LoopNIn
import Derived.LoopIn
import Derived.Maps.AppendAt
import Derived.Lib.Bytes
set_option linter.unusedVariables false
set_option linter.unusedSimpArgs false

/-! ## Number -/
set_option linter.unusedVariables false
set_option linter.unusedSimpArgs false
namespace Go.Proofs.Ytbffeibcndbmgaa.Pg
open Go.RowKit Go.Proofs.YtbffeibcndbmgaaW.PrintWords Go.Proofs.YtbffeibcndbmgaaW.PrintLast Go.Proofs.YtbffeibcndbmgaaW.PrintMore Go.Proofs.Ytbffeibcndbmgaa.PPageSteps

/-- two bytes as a number, the higher one first. -/
def num2 (xs : List Int) : Int := 256 * rd xs 0 + rd xs 1
theorem or_bytes (a b : Nat) (ha : a < 256) (hb : b < 256) : bits .or .i64 (wrap64 ((wrap64 (a : Int)) * 256)) (wrap64 (b : Int)) = 256 * a + b := by
  have e1 : wrap64 ((wrap64 (a : Int)) * 256) = ((a * 256 : Nat) : Int) := by unfold wrap64; omega
  have e2 : wrap64 (b : Int) = b := by unfold wrap64; omega
  rw [e1, e2]
  have h1 : (BitVec.ofInt 64 ((a * 256 : Nat) : Int)).toNat = a * 256 := by rw [BitVec.ofInt_natCast, BitVec.toNat_ofNat]; exact Nat.mod_eq_of_lt (by omega)
  have h2 : (BitVec.ofInt 64 (b : Int)).toNat = b := by rw [BitVec.ofInt_natCast, BitVec.toNat_ofNat]; exact Nat.mod_eq_of_lt (by omega)
  show IntKind.i64.wrap ((BitVec.ofInt 64 ((a * 256 : Nat) : Int) ||| BitVec.ofInt 64 (b : Int)).toNat : Int) = _
  rw [BitVec.toNat_or, h1, h2]
  have h3 := Nat.shiftLeft_add_eq_or_of_lt (show b < 2 ^ 8 by omega) a
  rw [Nat.shiftLeft_eq] at h3
  have h4 : a * 256 ||| b = a * 256 + b := h3.symm
  rw [h4, IntKind.wrap_i64]
  omega
theorem number_any (w : World) (A0 : Option Addr) (n c0 : Nat) (l : List Int) (hl : l.length = n) (hn : 2 ≤ n) (hc : n ≤ c0) (hb : Bytes l) (hr : Kd.C (Kd.int .u8) w A0 n l) :
    Calls Try.prog 35 #[.slice A0 n c0] w fun e w' => e = .returned (.int .i64 (num2 l)) ∧ Drawn0 w w' := by
  subst hl
  obtain ⟨a, ha, ha2⟩ := hb.nat (show 0 < l.length by omega)
  obtain ⟨b, hb', hb2⟩ := hb.nat (show 1 < l.length by omega)
  refine page_number.calls A0 c0 l (num2 l) w hr hc ?_
  unfold page_number.f
  rw [if_pos (by omega), if_pos (by omega)]
  have e0 : rd l 0 = a := ha
  have e1 : rd l 1 = b := hb'
  unfold num2
  rw [e0, e1, or_bytes a b ha2 hb2]

/-- the place and the length in slot i of a page's bytes. -/
def fieldAt (p : List Int) (i : Nat) : Int × Int := (num2 ((p.drop (2 + 4 * i)).take 4), num2 ((p.drop (2 + 4 * i + 2)).take 2))
/-- what comes of a page's slots: places and lengths below 65536. -/
abbrev Fld := { x : Int × Int // 0 ≤ x.1 ∧ x.1 < 65536 ∧ 0 ≤ x.2 ∧ x.2 < 65536 }
theorem num2_range {l : List Int} (h : Bytes l) (hn : 2 ≤ l.length) : 0 ≤ num2 l ∧ num2 l < 65536 := by
  obtain ⟨a, ha, ha2⟩ := h.nat (show 0 < l.length by omega)
  obtain ⟨b, hb', hb2⟩ := h.nat (show 1 < l.length by omega)
  have e0 : rd l 0 = a := ha
  have e1 : rd l 1 = b := hb'
  unfold num2
  omega
theorem Bytes.cut {l : List Int} (h : Bytes l) (i n : Nat) : Bytes ((l.drop i).take n) := fun x hx => h x (List.mem_of_mem_drop (List.mem_of_mem_take hx))
theorem fieldAt_range {p : List Int} (h : Bytes p) (i : Nat) (hi : 2 + 4 * i + 4 ≤ p.length) : 0 ≤ (fieldAt p i).1 ∧ (fieldAt p i).1 < 65536 ∧ 0 ≤ (fieldAt p i).2 ∧ (fieldAt p i).2 < 65536 := by
  have h1 := num2_range (h.cut (2 + 4 * i) 4) (by simp; omega)
  have h2 := num2_range (h.cut (2 + 4 * i + 2) 2) (by simp; omega)
  exact ⟨h1.1, h1.2, h2.1, h2.2⟩
def fieldOf (p : List Int) (i : Nat) : Fld := if h : 0 ≤ (fieldAt p i).1 ∧ (fieldAt p i).1 < 65536 ∧ 0 ≤ (fieldAt p i).2 ∧ (fieldAt p i).2 < 65536 then ⟨fieldAt p i, h⟩ else ⟨(0, 0), by omega⟩
theorem fieldOf_eq {p : List Int} (h : Bytes p) (i : Nat) (hi : 2 + 4 * i + 4 ≤ p.length) : (fieldOf p i).1 = fieldAt p i := by
  unfold fieldOf
  rw [dif_pos (fieldAt_range h i hi)]
/-- the fields of the first k slots. -/
def flds (p : List Int) (k : Nat) : List Fld := (List.range k).map (fieldOf p)
theorem flds_succ (p : List Int) (k : Nat) : flds p (k + 1) = flds p k ++ [fieldOf p k] := by simp [flds, List.range_succ]
theorem flds_length (p : List Int) (k : Nat) : (flds p k).length = k := by simp [flds]

set_option maxHeartbeats 1000000 in
theorem fields_any (w : World) (A : Option Addr) (n c : Nat) :
    Calls Try.prog 36 #[.slice A n c] w fun e w' => e = .returned (.func (.func 42) #[] #[.pointer (some ⟨w.heap.size, 0, none⟩)]) ∧ w' = w.alloc (.cells #[.slice A n c] 22) := by
  go_enter Try.func36, Try.ntmps36
  go_wp2
  go_ret
  exact ⟨rfl, rfl⟩

theorem cutA_from (a : Addr) (len cap : Nat) (i : Int) (j : Nat) (hij : i = j) (h : j ≤ len) (hc : j < cap) (W : World) :
    (Instr.slice 22 (.slice (some a) len cap) (some (.int .i64 i)) none none).run Try.prog W = .ok (.slice (some (a.add j)) (len - j) (cap - j)) W := by
  subst hij
  obtain ⟨i0, hi, _, hsz, _⟩ := info_parts info5
  have hu : Try.prog.underlying 22 = some (.slice (Try.prog.elem 22)) := by rw [show Try.prog.elem 22 = 5 by simp [Program.elem, Try.underlying22]]; exact Try.underlying22
  rw [run_slice_l W 22 _ len cap hu .i64 (j : Int) (by omega) (by omega)]
  rw [show Try.prog.elem 22 = 5 by simp [Program.elem, Try.underlying22]]
  have hne : cap ≠ j := by omega
  simp [sizeOf, typeInfo, hi, hsz, sliced, Result.andThen, hne]
theorem cutA_four (a : Addr) (len cap : Nat) (h : 4 ≤ cap) (W : World) :
    (Instr.slice 22 (.slice (some a) len cap) none (some (.int .i64 4)) (some (.int .i64 4))).run Try.prog W = .ok (.slice (some a) 4 4) W := by
  obtain ⟨i0, hi, _, hsz, _⟩ := info_parts info5
  have hu : Try.prog.underlying 22 = some (.slice (Try.prog.elem 22)) := by rw [show Try.prog.elem 22 = 5 by simp [Program.elem, Try.underlying22]]; exact Try.underlying22
  rw [run_slice_hm W 22 _ len cap hu .i64 .i64 4 4 (by omega) (by omega) (by omega)]
  rw [show Try.prog.elem 22 = 5 by simp [Program.elem, Try.underlying22]]
  simp [sizeOf, typeInfo, hi, hsz, sliced, Result.andThen, Addr.add]
theorem cutA_mid (a : Addr) (len cap : Nat) (i j : Int) (m n : Nat) (him : i = m) (hjn : j = n) (hmn : m ≤ n) (h : n ≤ cap) (hc : m < cap) (W : World) :
    (Instr.slice 22 (.slice (some a) len cap) (some (.int .i64 i)) (some (.int .i64 j)) none).run Try.prog W = .ok (.slice (some (a.add m)) (n - m) (cap - m)) W := by
  subst him hjn
  obtain ⟨i0, hi, _, hsz, _⟩ := info_parts info5
  have hu : Try.prog.underlying 22 = some (.slice (Try.prog.elem 22)) := by rw [show Try.prog.elem 22 = 5 by simp [Program.elem, Try.underlying22]]; exact Try.underlying22
  rw [run_slice_lh W 22 _ len cap hu .i64 .i64 (m : Int) (n : Int) (by omega) (by omega) (by omega)]
  rw [show Try.prog.elem 22 = 5 by simp [Program.elem, Try.underlying22]]
  have hne : cap ≠ m := by omega
  simp [sizeOf, typeInfo, hi, hsz, sliced, Result.andThen, hne]

/-- cuts of a slice that is read. -/
theorem cut_from {w : World} {a : Addr} {n c : Nat} {xs : List Int} (h : Kd.C (Kd.int .u8) w (some a) n xs) (i : Nat) (hi : i ≤ n) (hc : n ≤ c) (hic : i < c) : Kd.C (Kd.int .u8) w (some (a.add i)) (n - i) (xs.drop i) := by
  have hl := h.1
  subst hl
  have h1 := Kd.C_drop (m := i) (c := c) h hi hc
  rw [if_neg (by omega)] at h1
  have e : (Option.map (fun x => x.add (i * (Kd.int .u8).sz)) (some a)) = some (a.add i) := by
    show some (a.add (i * 1)) = _
    rw [Nat.mul_one]
  rw [e, List.length_drop] at h1
  exact h1
theorem cut_to {w : World} {a : Option Addr} {n : Nat} {xs : List Int} (h : Kd.C (Kd.int .u8) w a n xs) (i : Nat) (hi : i ≤ n) : Kd.C (Kd.int .u8) w a i (xs.take i) := by
  have hl := h.1
  subst hl
  have h1 := Kd.C_take (m := i) h hi
  rw [List.length_take, Nat.min_eq_left hi] at h1
  exact h1

end Go.Proofs.Ytbffeibcndbmgaa.Pg

/-! ## Iter -/
set_option linter.unusedVariables false
set_option linter.unusedSimpArgs false
namespace Go.Proofs.Ytbffeibcndbmgaa.Pg
open Go.RowKit Go.Shelf Go.Proofs.YtbffeibcndbmgaaW.PrintWords Go.Proofs.YtbffeibcndbmgaaW.PrintLast Go.Proofs.YtbffeibcndbmgaaW.PrintMore Go.Proofs.Ytbffeibcndbmgaa.PPageSteps
attribute [local go_sem] Oper.semAt_some

/-- what a round keeps: all that lay below n₀, and the box of p. -/
def Kp (n₀ Bp : Nat) (W W' : World) : Prop := Below n₀ W W' ∧ W'.heap[Bp]? = W.heap[Bp]?
theorem kp_refl (n₀ Bp : Nat) (W : World) : Kp n₀ Bp W W := ⟨Below.refl _ _, rfl⟩
theorem kp_t {n₀ Bp : Nat} {A B C : World} (h : Kp n₀ Bp A B) (k : Kp n₀ Bp B C) : Kp n₀ Bp A C := ⟨h.1.trans k.1, k.2.trans h.2⟩
theorem kp_b {n₀ Bp : Nat} {w : World} (hn : n₀ ≤ w.heap.size) (hb : Bp < w.heap.size) (W : World) (l : Nat) (o o' : Obj) (hl : w.heap.size ≤ l) (h : W.heap[l]? = some o) (h1 : o.isCells = false) (h2 : o.isWalk = false) : Kp n₀ Bp W (W.putObj l o') :=
  ⟨belowK_b hn W l o o' hl h h1 h2, World.putObj_heap_other (by omega)⟩
theorem kp_drewN {n₀ Bp : Nat} (W : World) (m : Nat) : Kp n₀ Bp W (W.drewN m) := ⟨pw_below_drewN (Below.refl _ _) m, rfl⟩

theorem abides_drewN {β : Type} {B : Nat} {J : β → World → Prop} (h : AbidesFrom B J) {s : β} {W : World} (m : Nat) (hj : J s W) : J s (W.drewN m) :=
  h s W (W.drewN m) none hj (grown_of_below (pw_below_drewN (Below.refl _ _) m) none) (fun r e => by cases e)

/-- how a round ends. -/
def Told (J Jx : List Fld → World → Prop) (n₀ Bp : Nat) (xs : List Fld) (W1 : World) (b : Bool) (W' : World) : Prop := (b = true → J xs W' ∧ Kp n₀ Bp W1 W') ∧ (b = false → Jx xs W')

theorem told_of {J Jx : List Fld → World → Prop} {n₀ Bp : Nat} {xs : List Fld} {W1 W' : World} {e : Ending} (h : (e = .returned (.bool true) ∧ J xs W' ∧ Kp n₀ Bp W1 W') ∨ (e = .returned (.bool false) ∧ Jx xs W')) : ∃ b, e = .returned (.bool b) ∧ Aside0 (Told J Jx n₀ Bp xs W1 b W') := by
  rcases h with ⟨rfl, h1, h2⟩ | ⟨rfl, h1⟩
  · exact ⟨true, rfl, ⟨⟨fun _ => ⟨h1, h2⟩, fun h => (by cases h)⟩⟩⟩
  · exact ⟨false, rfl, ⟨⟨fun h => (by cases h), fun _ => h1⟩⟩⟩

set_option maxHeartbeats 4000000 in
set_option maxRecDepth 100000 in
theorem iter_in (n l Bp n₀ : Nat) (A : Option Addr) (c : Nat) (p : List Int) (cnt : Nat) (hc : 512 ≤ c) (hby : Bytes p) (hcnt : num2 p = cnt) (hfit : 2 + 4 * cnt ≤ 504) (hn : 3 ≤ n) (J Jx : List Fld → World → Prop) (W w0 : World) (hJ : AbidesFrom W.heap.size J)
    (hY : ∀ pre (x : Fld) W1, J pre W1 → pre.length < cnt → YieldAt Fence.wide (n - 1) Try.prog l #[.int .i64 x.1.1, .int .i64 x.1.2] W1 fun e W' =>
      (e = .returned (.bool true) ∧ J (pre ++ [x]) W' ∧ Kp n₀ Bp W1 W') ∨ (e = .returned (.bool false) ∧ Jx (pre ++ [x]) W'))
    (hBp : W.cell? ⟨Bp, 0, none⟩ = some (.slice A 512 c)) (hn0 : n₀ = w0.heap.size) (hr : Kd.C (Kd.int .u8) w0 A 512 p) (hW : Below n₀ w0 W) (h0 : J [] W) :
    CallsIn Fence.wide n Try.prog 42 #[.func (.yield l) #[] #[], .pointer (some ⟨Bp, 0, none⟩)] W fun e W' => (∃ v, e = .returned v) ∧
      ((∃ ys, ys = flds p cnt ∧ J ys W') ∨ (∃ pre, (∃ k, k ≤ cnt ∧ pre = flds p k) ∧ Jx pre W')) := by
  subst hn0
  have HR := Aside0.mk hr
  have HN := Aside0.mk hcnt
  have HW := Aside0.mk hW
  have HJ := Aside0.mk hJ
  have HY := Aside0.mk (fun pre x W1 hj hl => (hY pre x W1 hj hl).mono (fun e W' h => told_of h))
  clear hr hcnt hW hJ hY
  have hm : Try.prog.follows .mixedOrders = true := by kernel_rfl
  refine callsIn_of_wp Try.func42 rfl trivial ?_ rfl
  simp only [Try.ntmps42, List.size_toArray, List.length_cons, List.length_nil, Nat.reduceAdd, Nat.reduceSub, Array.replicate_succ, Array.replicate_zero, List.push_toArray, List.append_toArray, List.nil_append, List.cons_append]
  gi_wp2_with (refine ⟨trivial, fun _ => (by omega), ?_⟩; gi_at_call 35; refine (callsIn_wide.2 (number_any W A 512 c p (Kd.C_len HR.out) (by omega) hc hby (Kd.C_below HR.out (HW.out)))).mono ?_; rintro e w' ⟨rfl, hd⟩)
  have HD := Aside0.mk hd
  obtain ⟨m0, rfl⟩ := hd.out
  rw [HN.out]
  gi_wp2
  gi_loopw [7] (fun i wr => ∃ k : Nat, k ≤ cnt ∧ i = .int .i64 k ∧ Aside0 (J (flds p k) wr) ∧ Aside0 (Kp w0.heap.size Bp W wr)) (fun i _ => cnt - (intOf i).toNat)
  case atStart => exact ⟨0, Nat.zero_le _, rfl, ⟨abides_drewN HJ.out m0 h0⟩, ⟨kp_drewN W m0⟩⟩
  case round =>
    clear HD
    obtain ⟨k, hk, rfl, HJS, HKP⟩ := hrel
    by_cases hlt : k < cnt
    · obtain ⟨ad, rfl, _⟩ := HR.out.2.2 (by omega)
      have hbx : wr.cell? ⟨Bp, 0, none⟩ = some (.slice (some ad) 512 c) := (World.cell?_of_block (a := ⟨Bp, 0, none⟩) HKP.out.2).trans hBp
      have hs1 := cutA_from ad 512 c (2 + 4 * (k : Int)) (2 + 4 * k) (by omega) (by omega) (by omega)
      have hs2 := cutA_four (ad.add (2 + 4 * k)) (512 - (2 + 4 * k)) (c - (2 + 4 * k)) (by omega)
      have hs3 := cutA_from (ad.add (2 + 4 * k)) 4 4 2 2 rfl (by omega) (by omega)
      have HF := Aside0.mk (fieldOf_eq hby k (by have := HR.out.1; omega))
      have HC1 : ∀ W', Below w0.heap.size w0 W' → Kd.C (Kd.int .u8) W' (some (ad.add (2 + 4 * k))) 4 ((p.drop (2 + 4 * k)).take 4) := fun W' h => cut_to (cut_from (Kd.C_below HR.out h) (2 + 4 * k) (by omega) hc (by omega)) 4 (by omega)
      have HC2 : ∀ W', Below w0.heap.size w0 W' → Kd.C (Kd.int .u8) W' (some ⟨(ad.add (2 + 4 * k)).block, (ad.add (2 + 4 * k)).off + 2, none⟩) 2 ((p.drop (2 + 4 * k + 2)).take 2) := fun W' h => by
        have h1 := cut_to (cut_from (cut_from (Kd.C_below HR.out h) (2 + 4 * k) (by omega) hc (by omega)) 2 (by omega) (show 512 - (2 + 4 * k) ≤ c - (2 + 4 * k) by omega) (by omega)) 2 (by omega)
        rw [List.drop_drop] at h1
        have e : (ad.add (2 + 4 * k)).add 2 = ⟨(ad.add (2 + 4 * k)).block, (ad.add (2 + 4 * k)).off + 2, none⟩ := by simp [Addr.add]
        rwa [e] at h1
      have HC1 := Aside0.mk HC1
      have HC2 := Aside0.mk HC2
      have HB0 : Aside0 (Below w0.heap.size w0 wr) := ⟨HW.out.trans HKP.out.1⟩
      gi_wp2_with (fail)
      gi_region_with_o (first
        | ((refine ⟨trivial, fun _ => (by omega), ?_⟩); gi_at_call 35; (with_reducible refine (callsIn_wide.2 (number_any _ (some (ad.add (2 + 4 * k))) 4 4 ((p.drop (2 + 4 * k)).take 4) (Kd.C_len (HC1.out _ HB0.out)) (by omega) (by omega) (hby.cut _ _) (HC1.out _ ?hb1))).mono ?_); (case hb1 => first | exact below_drew HB0.out | exact below_drew1 HB0.out); rintro e w1 ⟨rfl, hd1⟩; obtain ⟨m1, rfl⟩ := hd1.out)
        | ((refine ⟨trivial, fun _ => (by omega), ?_⟩); gi_at_call 35; (with_reducible refine (callsIn_wide.2 (number_any _ (some ⟨(ad.add (2 + 4 * k)).block, (ad.add (2 + 4 * k)).off + 2, none⟩) 2 2 ((p.drop (2 + 4 * k + 2)).take 2) (Kd.C_len (HC2.out _ HB0.out)) (by omega) (by omega) (hby.cut _ _) (HC2.out _ ?hb2))).mono ?_); (case hb2 => exact pw_below_drewN HB0.out _); rintro e w2 ⟨rfl, hd2⟩; obtain ⟨m2, hm2⟩ := hd2.out; rw [World.drewN_drewN] at hm2; subst hm2; obtain ⟨fn, tmps, assign, body, hy, hR⟩ := HY.out _ (fieldOf p k) (wr.drewN (1 + m1 + m2)) (abides_drewN HJ.out _ HJS.out) (by rw [flds_length]; exact hlt); rw [HF.out] at hy; simp only [fieldAt] at hy; have HRD := Aside0.mk hR; clear hR)
        | ((refine ⟨fun _ => (by omega), ?_⟩); refine HRD.out.mono ?_; rintro e W3 ⟨b, rfl, HTD⟩))
      cases b with
      | true =>
        have ht := HTD.out.1 rfl
        have HJ3 : Aside0 (J (flds p (k + 1)) W3) := ⟨by rw [flds_succ]; exact ht.1⟩
        have HK3 : Aside0 (Kp w0.heap.size Bp W W3) := ⟨kp_t (kp_t HKP.out (kp_drewN wr _)) ht.2⟩
        clear ht
        gi_wp2
        go_roundw
        case rel => exact ⟨k + 1, by omega, by go_num, HJ3, HK3⟩
        case measure => simp [intOf]; omega
      | false =>
        have ht := HTD.out.2 rfl
        rw [← flds_succ] at ht
        gi_wp2
        refine bodyPost_ret (results_none rfl _ _ _) rfl ?_
        exact ⟨⟨_, rfl⟩, .inr ⟨_, ⟨k + 1, by omega, rfl⟩, ht⟩⟩
    · obtain rfl : k = cnt := by omega
      gi_wp2
      go_end0
      exact ⟨⟨_, rfl⟩, .inl ⟨_, rfl, HJS.out⟩⟩

/-- 'fields' hands back an iterator over the fields of a page's bytes. -/
theorem iter_stops (n Bp : Nat) (A : Option Addr) (c : Nat) (p : List Int) (cnt : Nat) (hc : 512 ≤ c) (hby : Bytes p) (hcnt : num2 p = cnt) (hfit : 2 + 4 * cnt ≤ 504) (hn : 3 ≤ n) (w w0 : World)
    (hBp : w.cell? ⟨Bp, 0, none⟩ = some (.slice A 512 c)) (hlt : Bp < w.heap.size) (hr : Kd.C (Kd.int .u8) w0 A 512 p) (hW : Below w0.heap.size w0 w) :
    SeqStopsK Fence.wide n Try.prog 42 #[.pointer (some ⟨Bp, 0, none⟩)] (fun x : Fld => #[.int .i64 x.1.1, .int .i64 x.1.2]) (Kp w0.heap.size Bp) (fun ys => ys = flds p cnt) (fun pre => ∃ k, k ≤ cnt ∧ pre = flds p k) cnt w := fun l J Jx W hB hJ _ hY h0 =>
  iter_in n l Bp w0.heap.size A c p cnt hc hby hcnt hfit hn J Jx W w0 hJ hY ((hB.cell (p := ⟨Bp, 0, none⟩) hlt).trans hBp) rfl hr (hW.trans (hB.mono hW.size)) h0

end Go.Proofs.Ytbffeibcndbmgaa.Pg

/-! ## Read -/
set_option linter.unusedVariables false
set_option linter.unusedSimpArgs false
namespace Go.Proofs.Ytbffeibcndbmgaa.Pg
open Go.RowKit Go.Shelf Go.Proofs.YtbffeibcndbmgaaW.PrintWords Go.Proofs.YtbffeibcndbmgaaW.PrintLast Go.Proofs.YtbffeibcndbmgaaW.PrintMore Go.Proofs.Ytbffeibcndbmgaa.PPageSteps

/-- one slot more, as read. -/
def readStep (p : List Int) (x : Int × Int) (st : Slots × Int) : Option (Slots × Int) :=
  if x.1 = 0 then some (st.1 ++ [none], st.2)
  else if x.1 > 504 ∨ x.2 > 504 - x.1 ∨ st.2 - x.2 < 0 then none
  else some (st.1 ++ [some ((p.drop x.1.toNat).take x.2.toNat)], st.2 - x.2)
def collFrom (p : List Int) : Slots × Int → List Fld → Option (Slots × Int)
  | st, [] => some st
  | st, x :: l => (readStep p x.1 st).bind fun st' => collFrom p st' l
def coll (p : List Int) (l : List Fld) : Option (Slots × Int) := collFrom p ([], 504) l
def roomL (s : Slots) : Int := 502 - 4 * s.length - sizes s
/-- what is read of bytes. -/
def readL (p : List Int) : Option Slots :=
  if p.length ≠ 512 ∨ 2 + 4 * num2 p > 504 then none
  else (coll p (flds p (num2 p).toNat)).bind fun st => if roomL st.1 < 0 ∨ pageL st.1 ≠ p then none else some st.1

theorem collFrom_append (p : List Int) : ∀ (st : Slots × Int) (a b : List Fld), collFrom p st (a ++ b) = (collFrom p st a).bind fun st' => collFrom p st' b
  | st, [], b => rfl
  | st, x :: a, b => by
    simp only [List.cons_append, collFrom]
    cases readStep p x.1 st with
    | none => rfl
    | some st' => exact collFrom_append p st' a b
theorem coll_snoc (p : List Int) (a : List Fld) (x : Fld) : coll p (a ++ [x]) = (coll p a).bind (readStep p x.1) := by
  unfold coll
  rw [collFrom_append]
  congr 1
  funext st
  simp only [collFrom]
  cases readStep p x.1 st <;> rfl
theorem flds_prefix (p : List Int) {k n : Nat} (h : k ≤ n) : ∃ r, flds p n = flds p k ++ r := by
  obtain ⟨d, rfl⟩ := Nat.exists_eq_add_of_le h
  exact ⟨_, by unfold flds; rw [List.range_add, List.map_append]⟩
theorem coll_none (p : List Int) {k n : Nat} (h : k ≤ n) (hc : coll p (flds p k) = none) : coll p (flds p n) = none := by
  obtain ⟨r, hr⟩ := flds_prefix p h
  unfold coll at *
  rw [hr, collFrom_append, hc]
  rfl

/-- the answer of 'read'. -/
def ReadPost (o : Option Slots) (base : Nat) (e : Ending) (w' : World) : Prop := match o with
  | none => e = .returned (.tuple #[.slice none 0 0, .bool false])
  | some s => ∃ v, e = .returned (.tuple #[v, .bool true]) ∧ (optK 5 (Kd.int .u8)).R 22 w' base (fun _ => True) v s

set_option maxHeartbeats 4000000 in
set_option maxRecDepth 100000 in
theorem read_short (w : World) (A : Option Addr) (n c : Nat) (p : List Int) (hp : Kd.C (Kd.int .u8) w A n p) (hc : n ≤ c) (hn : n ≠ 512) :
    Calls Try.prog 26 #[.slice A n c] w fun e w' => e = .returned (.tuple #[.slice none 0 0, .bool false]) ∧ Aside0 (Below w.heap.size w w') := by
  have hb1 : ((n : Int) != 512) = true := by rw [bne_iff_ne]; omega
  have hmx := hp.2.1
  clear hp
  go_enter Try.func26, Try.ntmps26
  go_wp2
  exact bodyPost_ret (v := .tuple #[.slice none 0 0, .bool false]) (by simp [results, Try.results26, go_sem]) rfl ⟨rfl, ⟨(((Below.refl _ w).alloc (Nat.le_refl _) _).alloc (by simp) _).alloc (by simp; omega) _⟩⟩

set_option maxHeartbeats 4000000 in
set_option maxRecDepth 100000 in
theorem read_bad (w : World) (A : Option Addr) (c : Nat) (p : List Int) (hp : Kd.C (Kd.int .u8) w A 512 p) (hc : 512 ≤ c) (hby : Bytes p) (hn : 2 + 4 * num2 p > 504) (hm : num2 p < 65536) :
    Calls Try.prog 26 #[.slice A 512 c] w fun e w' => e = .returned (.tuple #[.slice none 0 0, .bool false]) ∧ Aside0 (Below w.heap.size w w') := by
  have HP := Aside0.mk hp
  clear hp
  obtain ⟨q, hq⟩ : ∃ q, q = num2 p := ⟨_, rfl⟩
  rw [← hq] at hn hm
  have HQ := Aside0.mk hq
  clear hq
  go_enter Try.func26, Try.ntmps26
  go_wp2_with (go_at_call 35; refine (number_any _ A 512 c p (Kd.C_len HP.out) (by omega) hc hby (Kd.C_alloc (Kd.C_alloc (Kd.C_alloc HP.out _) _) _)).mono ?_; rintro e w' ⟨rfl, hd⟩; obtain ⟨m, rfl⟩ := hd.out; rw [← HQ.out])
  exact bodyPost_ret (v := .tuple #[.slice none 0 0, .bool false]) (by simp [results, Try.results26, go_sem]) rfl ⟨rfl, ⟨((pw_below_drewN ((((Below.refl _ w).alloc (Nat.le_refl _) _).alloc (by simp) _).alloc (by simp; omega) _) m).setCell (p := ⟨w.heap.size + 1, 0, none⟩) (by simp) _).setCell (p := ⟨w.heap.size + 1 + 1, 0, none⟩) (by simp; omega) _⟩⟩

end Go.Proofs.Ytbffeibcndbmgaa.Pg

/-! ## ReadInv -/
set_option linter.unusedVariables false
set_option linter.unusedSimpArgs false
namespace Go.Proofs.Ytbffeibcndbmgaa.Pg
open Go.RowKit Go.Shelf Go.Proofs.YtbffeibcndbmgaaW.PrintWords Go.Proofs.YtbffeibcndbmgaaW.PrintLast Go.Proofs.YtbffeibcndbmgaaW.PrintMore Go.Proofs.Ytbffeibcndbmgaa.PPageSteps

abbrev SK : Kd (Option (List Int)) := optK 5 (Kd.int .u8)
/-- what holds between two rounds. -/
def RI (pv : Value) (p : List Int) (w : World) (base : Nat) (pre : List Fld) (W : World) : Prop :=
  ∃ (s : Slots) (left : Int) (v : Value), coll p pre = some (s, left) ∧ 0 ≤ left ∧ left ≤ 504 ∧ s.length = pre.length ∧ Boxed W w.heap.size 22 pv ∧ Boxed W (w.heap.size + 1) 52 v ∧
    Boxed W (w.heap.size + 1 + 1) 4 (.bool false) ∧ Boxed W (w.heap.size + 1 + 1 + 1) 3 (.int .i64 left) ∧ SK.R 22 W base (fun k => base ≤ k) v s ∧ base ≤ W.heap.size ∧ Below w.heap.size w W
/-- what holds where the loop has been left. -/
def RX (p : List Int) (w : World) (c : Code) (pre : List Fld) (W : World) : Prop :=
  c = .ret ∧ coll p pre = none ∧ Boxed W (w.heap.size + 1) 52 (.slice none 0 0) ∧ Boxed W (w.heap.size + 1 + 1) 4 (.bool false) ∧ Below w.heap.size w W

theorem not_row {W : World} {B : Nat} {t : TypeId} {v : Value} (h : Boxed W B t v) {row : Option Nat} (hr : ∀ r, row = some r → ∃ o : Obj, W.heap[r]? = some o ∧ o.isCells = false) : some B ≠ row := by
  intro e
  obtain ⟨o, ho, hc⟩ := hr B e.symm
  rw [show W.heap[B]? = _ from h] at ho
  cases ho
  cases hc
theorem sk_row {W W' : World} {base : Nat} {ok : Nat → Prop} {v : Value} {s : Slots} (h : SK.R 22 W base ok v s) {row : Option Nat} (hg : W.grownBy W' row) (hr : ∀ r, row = some r → ∃ o : Obj, W.heap[r]? = some o ∧ o.isCells = false) : SK.R 22 W' base ok v s := by
  refine Kd.R_mono (Kd.R_grown (Kd.R_bound h) hg ?_) (fun k hk => hk.1)
  rintro k ⟨_, _, _, q, _, cells, hc⟩ e
  obtain ⟨o, ho, hn⟩ := hr k e.symm
  rw [hc] at ho
  cases ho
  cases hn
theorem ri_own (pv : Value) (p : List Int) (w : World) (base B : Nat) (hB : w.heap.size ≤ B) : OwnFrom B (RI pv p w base) := by
  rintro pre W W' row ⟨s, left, v, h1, h2, h3, h4, h5, h6, h7, h8, h9, hz, h10⟩ hg hr
  have hr' : ∀ r, row = some r → ∃ o : Obj, W.heap[r]? = some o ∧ o.isCells = false := fun r e => (hr r e).2
  exact ⟨s, left, v, h1, h2, h3, h4, h5.kept hg (not_row h5 hr'), h6.kept hg (not_row h6 hr'), h7.kept hg (not_row h7 hr'), h8.kept hg (not_row h8 hr'), sk_row h9 hg hr', Nat.le_trans hz hg.size, h10.grown hg h10.size (fun k e => Nat.le_trans hB (hr k e).1)⟩
theorem rx_own (p : List Int) (w : World) (c : Code) (B : Nat) (hB : w.heap.size ≤ B) : OwnFrom B (RX p w c) := by
  rintro pre W W' row ⟨h1, h2, h6, h7, h10⟩ hg hr
  have hr' : ∀ r, row = some r → ∃ o : Obj, W.heap[r]? = some o ∧ o.isCells = false := fun r e => (hr r e).2
  exact ⟨h1, h2, h6.kept hg (not_row h6 hr'), h7.kept hg (not_row h7 hr'), h10.grown hg h10.size (fun k e => Nat.le_trans hB (hr k e).1)⟩

theorem info22 : (Try.prog.info? 22).map (fun i => (i.zero, i.size, i.bytes)) = some (some (.slice none 0 0), 1, 24) := by kernel_rfl
theorem under52 : Try.prog.underlying 52 = some (.slice 22) := by kernel_rfl

/-- a box lies below the slots' rows. -/
theorem box_keep {W W1 : World} {B : Nat} {t : TypeId} {u v : Value} {base : Nat} {s : Slots} (b : Boxed W B t u) (h : SK.R 22 W base (fun k => base ≤ k) v s) (hg : W.grownBy W1 v.ownBlock) (hlt : B < base) : Boxed W1 B t u :=
  b.kept hg (fun e => by have := h.1 B e.symm; omega)
theorem below_keep {w W W1 : World} {n base : Nat} {v : Value} {s : Slots} (hb : Below n w W) (h : SK.R 22 W base (fun k => base ≤ k) v s) (hg : W.grownBy W1 v.ownBlock) (hn : n ≤ base) (hs : n ≤ W.heap.size) : Below n w W1 :=
  hb.grown hg hs (fun k e => Nat.le_trans hn (h.1 k e))
theorem keeps_keep {W W1 : World} {B base : Nat} {v : Value} {s : Slots} (h : SK.R 22 W base (fun k => base ≤ k) v s) (hg : W.grownBy W1 v.ownBlock) : KeepsFrom B W W1 := by
  refine (KeepsOthers.of_grownBy hg (fun j o e ho => ?_)).from B
  obtain ⟨_, inner, hown, _⟩ := h
  obtain ⟨cells, hc⟩ := own_typed hown j e
  rw [hc] at ho
  cases ho
  rfl

/-- one slot more has been appended and stored: what a round owes. -/
theorem ri_push {pv : Value} {p : List Int} {w : World} {base : Nat} {pre : List Fld} {x : Fld} {Wa W1 : World} {s s1 : Slots} {left : Int} {v v1 : Value} (hbz : w.heap.size + 4 < base)
    (hcoll : coll p (pre ++ [x]) = some (s1, left)) (hl0 : 0 ≤ left) (hl1 : left ≤ 504) (hsl : s1.length = (pre ++ [x]).length) (bP : Boxed Wa w.heap.size 22 pv) (bS : Boxed Wa (w.heap.size + 1) 52 v)
    (bO : Boxed Wa (w.heap.size + 1 + 1) 4 (.bool false)) (bL : Boxed Wa (w.heap.size + 1 + 1 + 1) 3 (.int .i64 left)) (HR : SK.R 22 Wa base (fun k => base ≤ k) v s) (hz : base ≤ Wa.heap.size) (hB : Below w.heap.size w Wa)
    (hg : Wa.grownBy W1 v.ownBlock) (HR1 : SK.R 22 W1 base (fun k => base ≤ k) v1 s1) :
    KeepsFrom base Wa (W1.setCell ⟨w.heap.size + 1, 0, none⟩ v1) ∧ Kp w.heap.size (w.heap.size + 1 + 1 + 1 + 1) Wa (W1.setCell ⟨w.heap.size + 1, 0, none⟩ v1) ∧ RI pv p w base (pre ++ [x]) (W1.setCell ⟨w.heap.size + 1, 0, none⟩ v1) := by
  have bS1 := box_keep bS HR hg (show w.heap.size + 1 < base by omega)
  have hB1 := below_keep (Below.refl w.heap.size Wa) HR hg (by omega) (by omega)
  refine ⟨(keeps_keep HR hg).trans ((KeepsOthers.setCell _ _ _).from _), ⟨hB1.setCell (p := ⟨w.heap.size + 1, 0, none⟩) (by simp) _, ?_⟩, ?_⟩
  · exact (Below.heap_setCell W1 ⟨w.heap.size + 1, 0, none⟩ v1 _ (by show w.heap.size + 1 + 1 + 1 + 1 ≠ w.heap.size + 1; omega)).trans (hg.block _ (by omega) (fun e => by have := HR.1 _ e.symm; omega))
  · refine ⟨s1, left, v1, hcoll, hl0, hl1, hsl, (box_keep bP HR hg (by omega)).other (by omega) _, bS1.set _, (box_keep bO HR hg (by omega)).other (by omega) _, (box_keep bL HR hg (by omega)).other (by omega) _, ?_, ?_, ?_⟩
    · exact Kd.R_far (p := ⟨w.heap.size + 1, 0, none⟩) HR1 (fun k hk => by show k ≠ w.heap.size + 1; omega) _
    · have := hg.size
      simp [World.setCell]
      omega
    · exact (hB.trans hB1).setCell (p := ⟨w.heap.size + 1, 0, none⟩) (by simp) _

/-- append(s, x): one slot more. -/
theorem run_slot {W : World} {base : Nat} {v : Value} {s : Slots} (HO : SK.R 22 W base (fun k => base ≤ k) v s) (x : Option (List Int)) (u : Value) (ok : Nat → Prop) (hx : SK.M W base ok x [u]) (hok : ∀ k, ok k → base ≤ k ∧ some k ≠ v.ownBlock)
    (hb : base ≤ W.heap.size) (hl : s.length ≤ 1000) (ty : TypeId) :
    ∃ v1 W1, (Builtin.append_ #[52, 52] ty #[v, .slice (some ⟨W.heap.size, 0, none⟩) 1 1]).run Try.prog (W.alloc (.cells #[u] 22)) = .ok v1 W1 ∧ SK.R 22 W1 base (fun k => base ≤ k) v1 (s ++ [x]) ∧ W.grownBy W1 v.ownBlock := by
  obtain ⟨h0, inner, hown, hr⟩ := HO
  obtain ⟨i0, hi, hz0, hz1, hz2⟩ := info_parts info22
  have hone : ∀ w ∈ [u], w.oneCell' = true := SK.K_one (SK.K_of_M hx)
  obtain ⟨v1, W1, hrun, ho1, hg1, _, hat⟩ := run_append_own_at (P := Try.prog) (W.alloc (.cells #[u] 22)) base 52 ty 22 i0 (.slice none 0 0) 1 24 under52 hi hz0 hz1 hz2 rfl (by omega) v s.length inner (hown.alloc _) ⟨W.heap.size, 0, none⟩ 1 1 [u] rfl (cell_one_new _ _ _) hone (by simp only [maxLen]; omega) (by omega) (by simp; omega)
  have hg2 : W.grownBy W1 v.ownBlock := World.grownBy.trans (World.grownBy_alloc W _ _) hg1
  refine ⟨v1, W1, hrun, ?_, hg2⟩
  refine Kd.R_appended h0 hr hx hok (fun k hk => by omega) ho1 hg2 ?_
  rcases hat with h | h
  · exact .inl h
  · exact .inr ⟨_, h, by simp⟩

/-- the boxes at the loop's beginning. -/
theorem read_start (w : World) (A : Option Addr) (c m : Nat) (W0 : World) (h : W0 = (((((w.alloc (.cells #[.slice A 512 c] 22)).alloc (.cells #[.slice none 0 0] 52)).alloc (.cells #[.bool false] 4)).drewN m).alloc (.cells #[.int .i64 504] 3)).alloc (.cells #[.slice A 512 c] 22)) :
    W0.heap.size = w.heap.size + 5 ∧ Boxed W0 (w.heap.size + 1 + 1 + 1 + 1) 22 (.slice A 512 c) ∧ Boxed W0 w.heap.size 22 (.slice A 512 c) ∧ Boxed W0 (w.heap.size + 1) 52 (.slice none 0 0) ∧ Boxed W0 (w.heap.size + 1 + 1) 4 (.bool false) ∧ Boxed W0 (w.heap.size + 1 + 1 + 1) 3 (.int .i64 504) ∧ Below w.heap.size w W0 := by
  have drewB : ∀ {W : World} {B : Nat} {t : TypeId} {v : Value}, Boxed W B t v → ∀ k, Boxed (W.drewN k) B t v := fun h k => h
  have b0 := Boxed.new w 22 (.slice A 512 c)
  have b1 := Boxed.new (w.alloc (.cells #[.slice A 512 c] 22)) 52 (.slice none 0 0)
  have b2 := Boxed.new ((w.alloc (.cells #[.slice A 512 c] 22)).alloc (.cells #[.slice none 0 0] 52)) 4 (.bool false)
  have b3 := Boxed.new ((((w.alloc (.cells #[.slice A 512 c] 22)).alloc (.cells #[.slice none 0 0] 52)).alloc (.cells #[.bool false] 4)).drewN m) 3 (.int .i64 504)
  have b4 := Boxed.new (((((w.alloc (.cells #[.slice A 512 c] 22)).alloc (.cells #[.slice none 0 0] 52)).alloc (.cells #[.bool false] 4)).drewN m).alloc (.cells #[.int .i64 504] 3)) 22 (.slice A 512 c)
  have hdz : ∀ W : World, (W.drewN m).heap = W.heap := fun W => rfl
  simp only [World.size_alloc, hdz] at b1 b2 b3 b4
  subst h
  refine ⟨by simp [World.size_alloc, hdz], b4, ((((drewB ((b0.alloc _).alloc _) m).alloc _).alloc _)), (((drewB (b1.alloc _) m).alloc _).alloc _), ((drewB b2 m).alloc _).alloc _, b3.alloc _, ?_⟩
  exact ((pw_below_drewN ((((Below.refl _ w).alloc (Nat.le_refl _) _).alloc (by simp) _).alloc (by simp; omega) _) m).alloc (by simp [hdz]; omega) _).alloc (by simp [hdz]; omega) _

/-- the same at the operation, within a fence. -/
theorem wpListIn_slot {F : Fence} {n : Nat} {ops : Array Oper} {rest : List Oper} {o : Oper} {a : Act} {Q : Exit → Act → World → Prop} (hgd : o.guard = none) (s1 s2 : Operand)
    (hop : o.op = .call { callee := .builtin .append, args := #[s1, s2], argTypes := #[52, 52] })
    {W : World} {base : Nat} {v : Value} {s : Slots} (e1 : a.eval s1 = v) (e2 : a.eval s2 = .slice (some ⟨W.heap.size, 0, none⟩) 1 1) (HO : SK.R 22 W base (fun k => base ≤ k) v s)
    (x : Option (List Int)) (u : Value) (ok : Nat → Prop) (hx : SK.M W base ok x [u]) (hok : ∀ k, ok k → base ≤ k ∧ some k ≠ v.ownBlock) (hb : base ≤ W.heap.size) (hl : s.length ≤ 1000)
    (hK : ∀ v1 W1, SK.R 22 W1 base (fun k => base ≤ k) v1 (s ++ [x]) → W.grownBy W1 v.ownBlock → wpListIn F n Try.prog ops Q rest (a.put o.dst v1) W1) :
    wpListIn F n Try.prog ops Q (o :: rest) a (W.alloc (.cells #[u] 22)) := by
  refine wpListIn_plain hgd fun K hK' => ?_
  obtain ⟨v1, W1, hrun, r1, r2⟩ := run_slot HO x u ok hx hok hb hl o.type
  unfold Oper.wpIn
  refine ⟨?_, ?_⟩
  · simp [Oper.about, hop, resolve, Target.leads, Sem.run_pure]
  · rw [Oper.semAt_plain F _ _ (by rw [hop]; intro c hc'; cases hc')]
    simp [execOp, hop, resolve, invoke, builtin, e1, e2, hrun, Result.andThen]
    exact hK' _ _ (hK v1 W1 r1 r2)

end Go.Proofs.Ytbffeibcndbmgaa.Pg

/-! ## Round -/
set_option linter.unusedVariables false
set_option linter.unusedSimpArgs false
namespace Go.Proofs.Ytbffeibcndbmgaa.Pg
open Go.RowKit Go.Shelf Go.Proofs.YtbffeibcndbmgaaW.PrintWords Go.Proofs.YtbffeibcndbmgaaW.PrintLast Go.Proofs.YtbffeibcndbmgaaW.PrintMore Go.Proofs.Ytbffeibcndbmgaa.PPageSteps

theorem uponIn_round {F : Fence} {n : Nat} {P : Program} (l : Nat) {o : Oper} {a : Act} {next next' : Act → World → Prop} {Q : Exit → Act → World → Prop} (hn : ∀ a w, next a w → next' a w) {r : Result Next} (h : o.uponIn F n P a next Q r) : o.uponIn (F.inRound l) n P a next' Q r := by
  cases r with
  | ok x w' =>
    cases x with
    | value v => exact hn _ _ h
    | skip => exact hn _ _ h
    | «defer» d => exact hn _ _ h
    | enter f args => exact ⟨h.1, CallsIn.inRound l (h.2.mono fun e w'' hq => by cases e with | returned v => exact hn _ _ hq | panicked c => exact hq | outgrown => exact hq)⟩
    | row rw args => exact ⟨h.1, h.2.mono fun v w'' hq => hn _ _ hq⟩
    | round l' f tmps assign body => exact ⟨h.1, h.2.mono fun e w'' hq => by cases e with | returned v => exact hn _ _ hq | panicked c => exact hq | outgrown => exact hq⟩
    | _ => exact h
  | halt x w' =>
    cases x with
    | panic v => exact h
    | _ => exact h

theorem wpOpsIn_round {F : Fence} {n : Nat} {P : Program} (l : Nat) (hro : F.round = none) {ops : Array Oper} (hd : ∀ (i : Nat) (o : Oper), ops[i]? = some o → ∀ c, o.op ≠ .defer c) {Q : Exit → Act → World → Prop} : ∀ (ls : List Nat) (a : Act) (w : World), wpOpsIn F n P ops Q ls a w → wpOpsIn (F.inRound l) n P ops Q ls a w
  | [], a, w, h => h
  | i :: rest, a, w, h => by
    unfold wpOpsIn at h ⊢
    cases ho : ops[i]? with
    | none =>
      rw [ho] at h
      exact wpOpsIn_round l hro hd rest a w h
    | some o =>
      rw [ho] at h
      simp only at h ⊢
      by_cases hw : Region.wanted o (yielded ops a.tmps) = true
      · rw [if_pos hw] at h ⊢
        refine ⟨h.1, ?_⟩
        have h2 := h.2
        rw [hro, Oper.semAt_none] at h2
        rw [Fence.inRound_round, Oper.semAt_eq _ _ _ (hd i o ho)]
        exact uponIn_round l (fun a w hq => wpOpsIn_round l hro hd rest a w hq) h2
      · rw [if_neg hw] at h ⊢
        exact ⟨h.1, wpOpsIn_round l hro hd rest _ w h.2⟩

theorem region_round {F : Fence} {n : Nat} {P : Program} (l : Nat) (hro : F.round = none) {ops : Array Oper} {Q : Exit → Act → World → Prop} {a : Act} {w : World} {id : Nat} (hd : (ops.all fun o => match o.op with | .defer _ => false | _ => true) = true) (hm : P.follows .mixedOrders = true)
    (h : wpAnyIn F n P .any ops Q ops.size (Array.replicate ops.size false) a w.drew) : (Code.region id ops true).wpIn (F.inRound l) n P Q a w :=
  wpIn_region_draw fun t => by
    have hd' : ∀ (i : Nat) (o : Oper), ops[i]? = some o → ∀ c, o.op ≠ .defer c := by
      intro i o ho c hc
      have := (Array.all_eq_true'.1 hd) o (Array.mem_of_getElem? ho)
      rw [hc] at this
      cases this
    simp only [Region.schedule, hm, Bool.true_or, if_true]
    exact wpOpsIn_round l hro hd' _ _ _ (wpAnyIn_sound ops.size t _ a _ h)

theorem _root_.Go.World.grownBy.weak {w w' : World} (h : w.grownBy w' none) (row : Option Nat) : w.grownBy w' row := ⟨h.os, h.tape, h.output, h.size, fun k hk _ => h.block k hk (by simp)⟩
theorem sk_lower {W : World} {b b' : Nat} {ok : Nat → Prop} {x : Option (List Int)} {u : Value} (h : SK.M W b ok x [u]) (hb : b' ≤ b) : SK.M W b' ok x [u] := SK.M_lower hb h
theorem m_shape {W : World} {b : Nat} {ok : Nat → Prop} {bs : List Int} {u : Value} (h : SK.M W b ok (some bs) [u]) : ∃ g c, u = .slice (some ⟨g, 0, none⟩) bs.length c := by
  obtain ⟨v, he, hv, hR⟩ := h
  injection he with he
  subst he
  obtain ⟨g, c, e, _⟩ := row_some hR hv
  exact ⟨g, c, e⟩
/-- the number of bytes left has been stored, an order drawn. -/
theorem left_set {pv : Value} {w W : World} {base : Nat} {s : Slots} {left : Int} {v : Value} (hbz : w.heap.size + 4 < base) (bP : Boxed W w.heap.size 22 pv) (bS : Boxed W (w.heap.size + 1) 52 v)
    (bO : Boxed W (w.heap.size + 1 + 1) 4 (.bool false)) (bL : Boxed W (w.heap.size + 1 + 1 + 1) 3 (.int .i64 left)) (HR : SK.R 22 W base (fun k => base ≤ k) v s) (hz : base ≤ W.heap.size) (hB : Below w.heap.size w W) (y : Int) :
    KeepsFrom base W (W.setCell ⟨w.heap.size + 1 + 1 + 1, 0, none⟩ (.int .i64 y)).drew ∧ Kp w.heap.size (w.heap.size + 1 + 1 + 1 + 1) W (W.setCell ⟨w.heap.size + 1 + 1 + 1, 0, none⟩ (.int .i64 y)).drew ∧
    Boxed (W.setCell ⟨w.heap.size + 1 + 1 + 1, 0, none⟩ (.int .i64 y)).drew w.heap.size 22 pv ∧ Boxed (W.setCell ⟨w.heap.size + 1 + 1 + 1, 0, none⟩ (.int .i64 y)).drew (w.heap.size + 1) 52 v ∧
    Boxed (W.setCell ⟨w.heap.size + 1 + 1 + 1, 0, none⟩ (.int .i64 y)).drew (w.heap.size + 1 + 1) 4 (.bool false) ∧ Boxed (W.setCell ⟨w.heap.size + 1 + 1 + 1, 0, none⟩ (.int .i64 y)).drew (w.heap.size + 1 + 1 + 1) 3 (.int .i64 y) ∧
    SK.R 22 (W.setCell ⟨w.heap.size + 1 + 1 + 1, 0, none⟩ (.int .i64 y)).drew base (fun k => base ≤ k) v s ∧ base ≤ (W.setCell ⟨w.heap.size + 1 + 1 + 1, 0, none⟩ (.int .i64 y)).drew.heap.size ∧ Below w.heap.size w (W.setCell ⟨w.heap.size + 1 + 1 + 1, 0, none⟩ (.int .i64 y)).drew := by
  have drewB : ∀ {W : World} {B : Nat} {t : TypeId} {v : Value}, Boxed W B t v → Boxed W.drew B t v := fun h => h
  refine ⟨((KeepsOthers.setCell _ _ _).trans (KeepsOthers.drew _)).from _, ⟨((Below.refl _ W).setCell (p := ⟨w.heap.size + 1 + 1 + 1, 0, none⟩) (by simp; omega) _).drew, Below.heap_setCell W ⟨w.heap.size + 1 + 1 + 1, 0, none⟩ _ _ (by show w.heap.size + 1 + 1 + 1 + 1 ≠ w.heap.size + 1 + 1 + 1; omega)⟩, drewB (bP.other (by omega) _), drewB (bS.other (by omega) _), drewB (bO.other (by omega) _), drewB (bL.set _), ?_, ?_, (hB.setCell (p := ⟨w.heap.size + 1 + 1 + 1, 0, none⟩) (by simp; omega) _).drew⟩
  · exact Kd.R_below (Kd.R_far (p := ⟨w.heap.size + 1 + 1 + 1, 0, none⟩) HR (fun k hk => by show k ≠ w.heap.size + 1 + 1 + 1; omega) _) (Below.refl _ _).drew
  · show base ≤ (W.setCell ⟨w.heap.size + 1 + 1 + 1, 0, none⟩ (.int .i64 y)).heap.size
    simp [World.setCell]
    exact hz

/-- a region that ends as it should, and in no other way. -/
def Only (Q : Exit → Act → World → Prop) : Exit → Act → World → Prop
  | .normal, a, w => Q .normal a w
  | _, _, _ => False
theorem wpIn_only {F : Fence} {n : Nat} {P : Program} {c : Code} {Q : Exit → Act → World → Prop} {a : Act} {w : World} (h : c.wpIn F n P (Only Q) a w) : c.wpIn F n P Q a w :=
  wpIn_mono h (fun e a w hq => by cases e <;> first | exact hq | exact hq.elim)
theorem only_mk {Q : Exit → Act → World → Prop} {a : Act} {w : World} (h : Q .normal a w) : Only Q .normal a w := h

/-- the loop is left: nothing is handed back. -/
theorem rx_left {p : List Int} {w W : World} {base : Nat} {pre : List Fld} {c : Code} {v u : Value} (hc : c = .ret) (hbz : w.heap.size + 4 < base) (hcoll : coll p pre = none) (bS : Boxed W (w.heap.size + 1) 52 v) (bO : Boxed W (w.heap.size + 1 + 1) 4 u) (hB : Below w.heap.size w W) (y : Value) :
    KeepsFrom base W (((W.setCell ⟨w.heap.size + 1 + 1 + 1, 0, none⟩ y).setCell ⟨w.heap.size + 1, 0, none⟩ (.slice none 0 0)).setCell ⟨w.heap.size + 1 + 1, 0, none⟩ (.bool false)) ∧ RX p w c pre (((W.setCell ⟨w.heap.size + 1 + 1 + 1, 0, none⟩ y).setCell ⟨w.heap.size + 1, 0, none⟩ (.slice none 0 0)).setCell ⟨w.heap.size + 1 + 1, 0, none⟩ (.bool false)) :=
  ⟨(((KeepsOthers.setCell _ _ _).trans (KeepsOthers.setCell _ _ _)).trans (KeepsOthers.setCell _ _ _)).from _, hc, hcoll, ((bS.other (by omega) _).set _).other (by omega) _, ((bO.other (by omega) _).other (by omega) _).set _,
    ((hB.setCell (p := ⟨w.heap.size + 1 + 1 + 1, 0, none⟩) (by simp; omega) _).setCell (p := ⟨w.heap.size + 1, 0, none⟩) (by simp) _).setCell (p := ⟨w.heap.size + 1 + 1, 0, none⟩) (by simp; omega) _⟩

theorem box_below {W W' : World} {B : Nat} {t : TypeId} {v : Value} (h : Boxed W B t v) (hb : Below W.heap.size W W') : Boxed W' B t v := h.kept (grown_of_below hb none) (by simp)
/-- what lies behind the last stores and the taking of the deferred calls. -/
theorem end_cells {w Wd : World} {base D : Nat} {v u : Value} (hbz : w.heap.size + 4 < base) (hD : base ≤ D) (bS : Boxed Wd (w.heap.size + 1) 52 v) (bO : Boxed Wd (w.heap.size + 1 + 1) 4 u) (hK : Wd.heap[D]? = some (.deferred (some []))) (hB : Below w.heap.size w Wd) (x y : Value) :
    ((Wd.setCell ⟨w.heap.size + 1, 0, none⟩ x).setCell ⟨w.heap.size + 1 + 1, 0, none⟩ y).heap[D]? = some (.deferred (some [])) ∧
    (((Wd.setCell ⟨w.heap.size + 1, 0, none⟩ x).setCell ⟨w.heap.size + 1 + 1, 0, none⟩ y).putObj D (.deferred none)).cell? ⟨w.heap.size + 1, 0, none⟩ = some x ∧
    (((Wd.setCell ⟨w.heap.size + 1, 0, none⟩ x).setCell ⟨w.heap.size + 1 + 1, 0, none⟩ y).putObj D (.deferred none)).cell? ⟨w.heap.size + 1 + 1, 0, none⟩ = some y ∧
    Below w.heap.size w (((Wd.setCell ⟨w.heap.size + 1, 0, none⟩ x).setCell ⟨w.heap.size + 1 + 1, 0, none⟩ y).putObj D (.deferred none)) ∧
    (∀ s, SK.R 22 Wd base (fun k => base ≤ k) x s → SK.R 22 (((Wd.setCell ⟨w.heap.size + 1, 0, none⟩ x).setCell ⟨w.heap.size + 1 + 1, 0, none⟩ y).putObj D (.deferred none)) w.heap.size (fun _ => True) x s) := by
  have hK2 : ((Wd.setCell ⟨w.heap.size + 1, 0, none⟩ x).setCell ⟨w.heap.size + 1 + 1, 0, none⟩ y).heap[D]? = some (.deferred (some [])) :=
    (Below.heap_setCell _ ⟨w.heap.size + 1 + 1, 0, none⟩ _ _ (by show D ≠ w.heap.size + 1 + 1; omega)).trans ((Below.heap_setCell _ ⟨w.heap.size + 1, 0, none⟩ _ _ (by show D ≠ w.heap.size + 1; omega)).trans hK)
  have b1 : Boxed ((Wd.setCell ⟨w.heap.size + 1, 0, none⟩ x).setCell ⟨w.heap.size + 1 + 1, 0, none⟩ y) (w.heap.size + 1) 52 x := (bS.set x).other (by omega) _
  have b2 : Boxed ((Wd.setCell ⟨w.heap.size + 1, 0, none⟩ x).setCell ⟨w.heap.size + 1 + 1, 0, none⟩ y) (w.heap.size + 1 + 1) 4 y := (bO.other (by omega) _).set y
  have hrow : ∀ r, some D = some r → ∃ o : Obj, ((Wd.setCell ⟨w.heap.size + 1, 0, none⟩ x).setCell ⟨w.heap.size + 1 + 1, 0, none⟩ y).heap[r]? = some o ∧ o.isCells = false := fun r e => by cases e; exact ⟨_, hK2, rfl⟩
  have hg := grownBy_putObj' ((Wd.setCell ⟨w.heap.size + 1, 0, none⟩ x).setCell ⟨w.heap.size + 1 + 1, 0, none⟩ y) D (.deferred none)
  have hB2 := (hB.setCell (p := ⟨w.heap.size + 1, 0, none⟩) (by simp) x).setCell (p := ⟨w.heap.size + 1 + 1, 0, none⟩) (by simp; omega) y
  refine ⟨hK2, (b1.kept hg (not_row b1 hrow)).cell, (b2.kept hg (not_row b2 hrow)).cell, hB2.grown hg hB2.size (fun k e => by cases e; omega), fun s hR => ?_⟩
  have h1 := Kd.R_far (p := ⟨w.heap.size + 1 + 1, 0, none⟩) (Kd.R_far (p := ⟨w.heap.size + 1, 0, none⟩) hR (fun k hk => by show k ≠ w.heap.size + 1; omega) x) (fun k hk => by show k ≠ w.heap.size + 1 + 1; omega) y
  exact Kd.R_lower (Kd.R_mono (sk_row h1 hg hrow) (fun _ _ => trivial)) (by omega)

/-- an empty row of bytes, just laid. -/
def Fresh (Wa W : World) (g : Nat) : Prop := Wa.heap.size ≤ g ∧ W.ownsRow Wa.heap.size 5 1 (.slice (some ⟨g, 0, none⟩) 0 0) 0 []
theorem fresh_new {Wa W : World} (h : Wa.grownBy W none) : Fresh Wa (W.alloc (.cells #[] 5)) W.heap.size := by
  refine ⟨h.size, ?_⟩
  have := World.ownsRow_lit (base := Wa.heap.size) (e := 5) (size := 1) W #[] 0 h.size (by simp [maxLen]) (by simp)
  simpa using this

/-- append([]byte(nothing), bytes...), a step of a region. -/
theorem step_rec {ops : Array Oper} {o : Oper} {a : Act} {n : Nat} {K : Act → World → Prop} {Q : Exit → Act → World → Prop} {E : Prop} (hgd : o.guard = none) (s1 s2 : Operand)
    (hop : o.op = .call { callee := .builtin .append, args := #[s1, s2], argTypes := #[22, 22] })
    {Wa Wc : World} {g : Nat} {ad : Addr} {m cc : Nat} {bs : List Int} (e1 : a.eval s1 = .slice (some ⟨g, 0, none⟩) 0 0) (e2 : a.eval s2 = .slice (some ad) m cc) (hf : Fresh Wa Wc g) (hr : Kd.C (Kd.int .u8) Wc (some ad) m bs) (hm : m ≤ 512) (hg : Wa.grownBy Wc none)
    (hK : ∀ v2 W2, SK.M W2 Wa.heap.size (fun k => Wa.heap.size ≤ k) (some bs) [v2] → Wa.grownBy W2 none → K (a.put o.dst v2) W2) :
    if Region.wanted o (yielded ops a.tmps) = true then Oper.wpIn Fence.wide n Try.prog o a Wc K Q else E := by
  have hw : Region.wanted o (yielded ops a.tmps) = true := by simp [Region.wanted, hgd]
  rw [if_pos hw]
  obtain ⟨i0, hi, hz0, hz1, hz2⟩ := info_parts info5
  have hbl : bs.length = m := hr.1
  obtain ⟨v1, W1, hrun, ho1, hg1, hnil, hat⟩ := run_append_own_at (P := Try.prog) Wc Wa.heap.size 22 o.type 5 i0 (.int .u8 0) 1 1 Try.underlying22 hi hz0 hz1 hz2 rfl (by omega) (.slice (some ⟨g, 0, none⟩) 0 0) 0 [] hf.2 ad m cc (nums .u8 bs) (by rw [nums_length]; omega) (C_cells hr) (nums_one _ _) (by simp only [maxLen]; omega) (by omega) hg.size
  have hrow : Wa.grownBy W1 none := ⟨hg1.os.trans hg.os, hg1.tape.trans hg.tape, hg1.output.trans hg.output, Nat.le_trans hg.size hg1.size, fun k hk _ => (hg1.block k (Nat.lt_of_lt_of_le hk hg.size) (fun e => by have := hf.1; simp [Value.ownBlock] at e; omega)).trans (hg.block k hk (by simp))⟩
  unfold Oper.wpIn
  refine ⟨?_, ?_⟩
  · simp [Oper.about, hop, resolve, Target.leads, Sem.run_pure]
  · rw [Oper.semAt_plain Fence.wide _ _ (by rw [hop]; intro c hc'; cases hc')]
    simp [execOp, hop, resolve, invoke, builtin, e1, e2, hrun, Result.andThen]
    refine hK v1 W1 ⟨v1, rfl, ?_, ?_⟩ hrow
    · intro h
      have := hnil.1 h
      simp at this
    · refine ⟨fun k hk => (own_base ho1 k hk), nums .u8 bs, ?_, reps_nums bs⟩
      simp only [Nat.zero_add, List.nil_append] at ho1
      rw [hbl]
      exact ho1

/-- append(s, x), a step of a region. -/
theorem step_slot {ops : Array Oper} {o : Oper} {a : Act} {n : Nat} {K : Act → World → Prop} {Q : Exit → Act → World → Prop} {E : Prop} (hgd : o.guard = none) (s1 s2 : Operand)
    (hop : o.op = .call { callee := .builtin .append, args := #[s1, s2], argTypes := #[52, 52] })
    {W : World} {base : Nat} {v : Value} {s : Slots} (e1 : a.eval s1 = v) (e2 : a.eval s2 = .slice (some ⟨W.heap.size, 0, none⟩) 1 1) (HO : SK.R 22 W base (fun k => base ≤ k) v s)
    (x : Option (List Int)) (u : Value) (ok : Nat → Prop) (hx : SK.M W base ok x [u]) (hok : ∀ k, ok k → base ≤ k ∧ some k ≠ v.ownBlock) (hb : base ≤ W.heap.size) (hl : s.length ≤ 1000)
    (hK : ∀ v1 W1, SK.R 22 W1 base (fun k => base ≤ k) v1 (s ++ [x]) → W.grownBy W1 v.ownBlock → K (a.put o.dst v1) W1) :
    if Region.wanted o (yielded ops a.tmps) = true then Oper.wpIn Fence.wide n Try.prog o a (W.alloc (.cells #[u] 22)) K Q else E := by
  have hw : Region.wanted o (yielded ops a.tmps) = true := by simp [Region.wanted, hgd]
  rw [if_pos hw]
  obtain ⟨v1, W1, hrun, r1, r2⟩ := run_slot HO x u ok hx hok hb hl o.type
  unfold Oper.wpIn
  refine ⟨?_, ?_⟩
  · simp [Oper.about, hop, resolve, Target.leads, Sem.run_pure]
  · rw [Oper.semAt_plain Fence.wide _ _ (by rw [hop]; intro c hc'; cases hc')]
    simp [execOp, hop, resolve, invoke, builtin, e1, e2, hrun, Result.andThen]
    exact hK v1 W1 r1 r2

end Go.Proofs.Ytbffeibcndbmgaa.Pg

/-! ## Calls -/
set_option linter.unusedVariables false
set_option linter.unusedSimpArgs false
namespace Go.Proofs.Ytbffeibcndbmgaa.Pg
open Go.RowKit Go.Proofs.YtbffeibcndbmgaaW.PrintWords Go.Proofs.YtbffeibcndbmgaaW.PrintLast Go.Proofs.YtbffeibcndbmgaaW.PrintMore Go.Proofs.Ytbffeibcndbmgaa.PPageSteps

theorem sizes_take_le (s : Slots) (k : Nat) : sizes (s.take k) ≤ sizes s := by
  have : sizes s = sizes (s.take k) + sizes (s.drop k) := by rw [← sizes_append, List.take_append_drop]
  omega
theorem room_run (s : Slots) (hl : s.length ≤ 100000) (hz : sizes s ≤ 1000000) : ∀ (n i : Nat), i + n = s.length →
    page_slots_room.l0 (n + 1) (502 - 4 * (s.length : Int) - sizes (s.take i)) (s.map (·.getD [])) ((s.map (·.getD [])).length : Int) (i : Int) = some (502 - 4 * (s.length : Int) - sizes s)
  | 0, i, h => by
    rw [page_slots_room.l0]
    rw [if_neg (by simp; omega), List.take_of_length_le (by omega)]
  | n + 1, i, h => by
    rw [page_slots_room.l0]
    rw [if_pos (by simp; omega), if_pos (by omega), if_pos (by simp; omega)]
    have hi : i < s.length := by omega
    have e : (rd_L1 (s.map (·.getD [])) (i : Int)) = (s.getD i none).getD [] := by
      unfold rd_L1
      rw [Int.toNat_natCast, List.getD_eq_getElem?_getD, List.getElem?_map, List.getElem?_eq_getElem hi, List.getD_eq_getElem?_getD, List.getElem?_eq_getElem hi]
      rfl
    have e2 : sizes (s.take (i + 1)) = sizes (s.take i) + ((s.getD i none).getD []).length := by
      rw [take_snoc s i hi, sizes_append]
      simp [sizes]
    have h3 := sizes_take_le s (i + 1)
    have h4 := sizes_take_le s i
    have e3 : wrap64 ((502 - 4 * (s.length : Int) - sizes (s.take i)) - ((rd_L1 (s.map (·.getD [])) (i : Int)).length : Int)) = 502 - 4 * (s.length : Int) - sizes (s.take (i + 1)) := by
      rw [e, e2]
      unfold wrap64
      omega
    rw [e3, wrap_up (by omega) (by omega)]
    exact room_run s hl hz n (i + 1) (by omega)

theorem room_any (w : World) (A : Option Addr) (n c : Nat) (s : Slots) (hr : SK.C w A n s) (hc : n ≤ c) (hl : n ≤ 100000) (hz : sizes s ≤ 1000000) :
    Calls Try.prog 28 #[.slice A n c] w fun e w' => e = .returned (.int .i64 (roomL s)) ∧ Drawn0 w w' := by
  have hn : s.length = n := hr.1
  have hr2 := optK_plain hr
  have hm : (s.map (·.getD [])).length = n := by rw [List.length_map]; exact hn
  subst hn
  rw [← hm] at hr2 hc ⊢
  refine page_slots_room.calls (s.length + 1) A c _ (roomL s) w hr2 hc ?_
  have h := room_run s hl hz s.length 0 (by omega)
  unfold page_slots_room.f roomL
  have e : wrap64 (502 - wrap64 (4 * ((s.map (·.getD [])).length : Int))) = 502 - 4 * (s.length : Int) - sizes (s.take 0) := by
    simp [sizes]
    unfold wrap64
    omega
  rw [e]
  exact h

theorem equal_run (xs ys : List Int) (hl : xs.length = ys.length) (hm : xs.length ≤ 100000) : ∀ (n i : Nat), i + n = xs.length →
    slices_Equal_byte_byte.l0 (n + 1) xs ys (xs.length : Int) (i : Int) = some (decide (xs.drop i = ys.drop i))
  | 0, i, h => by
    rw [slices_Equal_byte_byte.l0]
    rw [if_neg (by omega), List.drop_of_length_le (by omega), List.drop_of_length_le (by omega)]
    rfl
  | n + 1, i, h => by
    rw [slices_Equal_byte_byte.l0]
    rw [if_pos (by omega), if_pos (by omega), if_pos (by omega), if_pos (by omega)]
    have e1 : rd xs (i : Int) = xs.getD i 0 := by unfold rd; rw [Int.toNat_natCast]
    have e2 : rd ys (i : Int) = ys.getD i 0 := by unfold rd; rw [Int.toNat_natCast]
    rw [e1, e2, wrap_up (by omega) (by omega), drop_getD xs i (by omega), drop_getD ys i (by omega)]
    by_cases h0 : xs.getD i 0 = ys.getD i 0
    · rw [if_pos h0]
      have := equal_run xs ys hl hm n (i + 1) (by omega)
      rw [show ((i : Int) + 1) = ((i + 1 : Nat) : Int) from by omega, this, h0]
      simp
    · rw [if_neg h0]
      have hne : ¬ (xs.getD i 0 :: xs.drop (i + 1) = ys.getD i 0 :: ys.drop (i + 1)) := fun e => h0 (List.cons.inj e).1
      simp only [hne, decide_false]
theorem equal_any (w : World) (A B : Option Addr) (n m c d : Nat) (xs ys : List Int) (hx : Kd.C (Kd.int .u8) w A n xs) (hy : Kd.C (Kd.int .u8) w B m ys) (hc : n ≤ c) (hd : m ≤ d) (hn : n ≤ 100000) :
    Calls Try.prog 37 #[.slice A n c, .slice B m d] w fun e w' => e = .returned (.bool (decide (xs = ys))) ∧ Drawn0 w w' := by
  have h1 : xs.length = n := hx.1
  have h2 : ys.length = m := hy.1
  subst h1 h2
  refine slices_Equal_byte_byte.calls (xs.length + 1) A c xs B d ys _ w hx hc hy hd ?_
  unfold slices_Equal_byte_byte.f
  by_cases h : xs.length = ys.length
  · rw [if_pos (by omega)]
    have := equal_run xs ys h hn xs.length 0 (by omega)
    simpa using this
  · rw [if_neg (by omega)]
    have : xs ≠ ys := fun e => h (by rw [e])
    simp [this]

theorem pageL_length {s : Slots} (h : Fits s) : (pageL s).length = 512 := by
  unfold pageL
  rw [List.length_append, body_length _ (trim_fits h)]
  simp [eight]
/-- what has been collected: its bytes and what is left are 504. -/
theorem readStep_keeps {p : List Int} (hp : p.length = 512) (hb : Bytes p) {x : Fld} {s s' : Slots} {left left' : Int} (h : readStep p x.1 (s, left) = some (s', left')) (h1 : (sizes s : Int) + left = 504) (h2 : ∀ r, some r ∈ s → Bytes r) :
    (sizes s' : Int) + left' = 504 ∧ (∀ r, some r ∈ s' → Bytes r) ∧ s'.length = s.length + 1 := by
  obtain ⟨⟨xa, xn⟩, hx⟩ := x
  simp only at hx
  unfold readStep at h
  simp only at h
  split at h
  · simp only [Option.some.injEq, Prod.mk.injEq] at h
    obtain ⟨rfl, rfl⟩ := h
    refine ⟨by rw [sizes_append]; simp [sizes]; exact h1, fun r hr => ?_, by simp⟩
    rcases List.mem_append.1 hr with hr | hr
    · exact h2 r hr
    · simp at hr
  · split at h
    · cases h
    · rename_i hbad
      simp only [Option.some.injEq, Prod.mk.injEq] at h
      obtain ⟨rfl, rfl⟩ := h
      refine ⟨?_, fun r hr => ?_, by simp⟩
      · rw [sizes_append]
        simp [sizes]
        omega
      · rcases List.mem_append.1 hr with hr | hr
        · exact h2 r hr
        · simp at hr
          subst hr
          exact hb.cut _ _
theorem coll_keeps {p : List Int} (hp : p.length = 512) (hb : Bytes p) : ∀ (k : Nat) (s : Slots) (left : Int), coll p (flds p k) = some (s, left) → (sizes s : Int) + left = 504 ∧ (∀ r, some r ∈ s → Bytes r) ∧ s.length = k
  | 0, s, left, h => by
    have h' : ([], 504) = (s, left) := by simpa [coll, flds, collFrom] using h
    simp only [Prod.mk.injEq] at h'
    obtain ⟨rfl, rfl⟩ := h'
    exact ⟨by simp [sizes], fun r hr => by simp at hr, rfl⟩
  | k + 1, s, left, h => by
    rw [flds_succ, coll_snoc] at h
    obtain ⟨⟨s0, l0⟩, h0, h1⟩ := Option.bind_eq_some_iff.1 h
    obtain ⟨a, b, c⟩ := coll_keeps hp hb k s0 l0 h0
    obtain ⟨a', b', c'⟩ := readStep_keeps hp hb h1 a b
    exact ⟨a', b', by omega⟩

end Go.Proofs.Ytbffeibcndbmgaa.Pg

/-! ## RefPure -/
set_option linter.unusedVariables false
set_option linter.unusedSimpArgs false
namespace Go.Proofs.Ytbffeibcndbmgaa.Pg
open Go.RowKit Go.Proofs.YtbffeibcndbmgaaW.PrintWords Go.Proofs.YtbffeibcndbmgaaW.PrintLast Go.Proofs.YtbffeibcndbmgaaW.PrintMore Go.Proofs.Ytbffeibcndbmgaa.GRef

def ofS (s : Slots) : List S59 := s.map fun x => match x with | none => ⟨[], false⟩ | some r => ⟨r, true⟩
theorem ofS_length (s : Slots) : (ofS s).length = s.length := by simp [ofS]
theorem ofS_append (s t : Slots) : ofS (s ++ t) = ofS s ++ ofS t := by simp [ofS]
theorem toP_ofS (s : Slots) : toP ((ofS s).map fun x => (x.f0, x.f1)) = s := by
  induction s with
  | nil => rfl
  | cons x l ih =>
    have e : toP ((ofS (x :: l)).map fun x => (x.f0, x.f1)) = x :: toP ((ofS l).map fun x => (x.f0, x.f1)) := by cases x <;> rfl
    rw [e, ih]

theorem ws {x : Int} (h0 : 0 ≤ x) (h1 : x ≤ 1000000) : wrap64 x = x := by unfold wrap64; omega
theorem rd_field (p : List Int) (j i : Nat) (hi : i < 4) (h : 6 + 4 * j ≤ p.length) : rd ((p.take (6 + 4 * j)).drop (2 + 4 * j)) (i : Int) = p.getD (2 + 4 * j + i) 0 := by
  unfold rd
  rw [Int.toNat_natCast, List.getD_eq_getElem?_getD, List.getElem?_drop, List.getElem?_take, if_pos (by omega), List.getD_eq_getElem?_getD]
theorem field_bytes (p : List Int) (j : Nat) : fieldAt p j = (256 * p.getD (2 + 4 * j) 0 + p.getD (2 + 4 * j + 1) 0, 256 * p.getD (2 + 4 * j + 2) 0 + p.getD (2 + 4 * j + 3) 0) := by
  unfold fieldAt num2 rd
  simp only [Int.toNat_zero, Int.toNat_one, List.getD_eq_getElem?_getD, List.getElem?_take, List.getElem?_drop]
  simp

theorem byte_one {x y : Int} (hx : 0 ≤ x ∧ x < 256) (hy : 0 ≤ y ∧ y < 256) (h : UInt8.ofNat x.toNat = UInt8.ofNat y.toNat) : x = y := by
  have h1 := congrArg UInt8.toNat h
  simp only [UInt8.toNat_ofNat'] at h1
  omega
theorem bytes_inj : ∀ (a b : List Int), Bytes a → Bytes b → (a.map fun n => UInt8.ofNat n.toNat) = (b.map fun n => UInt8.ofNat n.toNat) → a = b
  | [], [], _, _, _ => rfl
  | [], y :: b, _, _, h => by simp at h
  | x :: a, [], _, _, h => by simp at h
  | x :: a, y :: b, ha, hb, h => by
    simp only [List.map_cons, List.cons.injEq] at h
    rw [byte_one (ha x (by simp)) (hb y (by simp)) h.1, bytes_inj a b (fun z hz => ha z (by simp [hz])) (fun z hz => hb z (by simp [hz])) h.2]
theorem bytes_eq {a b : List Int} (ha : Bytes a) (hb : Bytes b) : ((strOfNums a).toList = (strOfNums b).toList) ↔ a = b := by
  constructor
  · intro h
    rw [Lib.strOfNums_toList, Lib.strOfNums_toList] at h
    exact bytes_inj a b ha hb h
  · intro h
    rw [h]

theorem rd_ofS (s : Slots) (j : Nat) (h : j < s.length) : (rd_T59 (ofS s) (j : Int)).f0 = (s.getD j none).getD [] := by
  unfold rd_T59 ofS
  rw [Int.toNat_natCast, List.getD_eq_getElem?_getD, List.getElem?_map, List.getD_eq_getElem?_getD, List.getElem?_eq_getElem h]
  cases s[j] <;> rfl
theorem roomS_run (s : Slots) (hl : s.length ≤ 1000) (hz : sizes s ≤ 100000) : ∀ n i, i + n = s.length → longstopref12_room.l0 (n + 1) (ofS s) (502 - 4 * (s.length : Int) - sizes (s.take i)) (i : Int) = some (roomL s) := by
  intro n
  induction n with
  | zero =>
    intro i h
    rw [longstopref12_room.l0, if_neg (by rw [ofS_length]; omega), List.take_of_length_le (by omega)]
    rfl
  | succ n ih =>
    intro i h
    have hi : i < s.length := by omega
    have h3 := sizes_take_le s (i + 1)
    have h4 := sizes_take_le s i
    have e2 : sizes (s.take (i + 1)) = sizes (s.take i) + ((s.getD i none).getD []).length := by
      rw [take_snoc s i hi, sizes_append]
      simp [sizes]
    have e3 : Aside0 (wrap64 ((502 - 4 * (s.length : Int) - sizes (s.take i)) - (((rd_T59 (ofS s) (i : Int)).f0).length : Int)) = 502 - 4 * (s.length : Int) - sizes (s.take (i + 1))) := ⟨by
      rw [rd_ofS s i hi, e2]
      unfold wrap64
      omega⟩
    have e4 : Aside0 (wrap64 ((i : Int) + 1) = ((i + 1 : Nat) : Int)) := ⟨by rw [ws (by omega) (by omega)]; omega⟩
    rw [longstopref12_room.l0, if_pos (by rw [ofS_length]; omega), if_pos (by omega), e3.out, e4.out]
    exact ih (i + 1) (by omega)
theorem roomS (s : Slots) (hl : s.length ≤ 1000) (hz : sizes s ≤ 100000) : longstopref12_room.f (s.length + 1) (ofS s) = some (roomL s) := by
  have h := roomS_run s hl hz s.length 0 (by omega)
  have e : wrap64 (502 - wrap64 (4 * (s.length : Int))) = 502 - 4 * (s.length : Int) - sizes (s.take 0) := by
    rw [ws (x := 4 * (s.length : Int)) (by omega) (by omega)]
    simp [sizes]
    unfold wrap64
    omega
  unfold longstopref12_room.f
  rw [ofS_length, e]
  exact h

theorem room_more (k d : Nat) (l : List S59) (r : Int) (h : longstopref12_room.f k l = some r) : longstopref12_room.f (k + d) l = some r := by
  induction d with
  | zero => exact h
  | succ d ih => exact longstopref12_room.mono l (k + d) r ih

theorem trim_mem {r : List Int} : ∀ {s : Slots}, some r ∈ trim s → some r ∈ s
  | [], h => by simp [trim] at h
  | x :: l, h => by
    cases ht : trim l with
    | nil =>
      cases x with
      | none => simp [trim, ht] at h
      | some q => simp [trim, ht] at h; simp [h]
    | cons y m =>
      have ih := @trim_mem r l
      rw [ht] at ih
      simp only [trim, ht] at h
      rcases List.mem_cons.1 h with h | h
      · rw [h]; simp
      · exact List.mem_cons_of_mem _ (ih h)
theorem bytes_page {s : Slots} (h : ∀ r, some r ∈ s → Bytes r) : Bytes (pageL s) := by
  unfold pageL
  refine bytes_append (bytes_body fun r hr => h r (trim_mem hr)) ?_
  intro x hx
  unfold eight at hx
  obtain ⟨i, _, rfl⟩ := List.mem_map.1 hx
  unfold byteAt
  omega

/-- 'write' of slots that have room. -/
theorem writeS {s : Slots} (hf : Fits s) (hbs : ∀ r, some r ∈ s → Bytes r) : longstopref12_write.f (ofS s) = some (pageL s) := by
  unfold longstopref12_write.f writeP
  rw [toP_ofS, if_pos ⟨fitsB_iff.2 hf, recB_iff.2 hbs⟩]

end Go.Proofs.Ytbffeibcndbmgaa.Pg

/-! ## RefRead -/
set_option linter.unusedVariables false
set_option linter.unusedSimpArgs false
namespace Go.Proofs.Ytbffeibcndbmgaa.Pg
open Go.RowKit Go.Proofs.YtbffeibcndbmgaaW.PrintWords Go.Proofs.YtbffeibcndbmgaaW.PrintLast Go.Proofs.YtbffeibcndbmgaaW.PrintMore Go.Proofs.Ytbffeibcndbmgaa.GRef

/-- the answer of the reference's 'read'. -/
def RefPost (o : Option Slots) (base : Nat) (e : Ending) (w' : World) : Prop :=
  ∃ v, e = .returned (.tuple #[v, .bool o.isSome]) ∧ Kd.S k59 59 w' base (fun _ => True) v (ofS (o.getD [])) ∧ Below base w' w'

theorem ref_no {o : Option Slots} {w w' : World} (ho : o = none) (hB : Below w.heap.size w w') : ∃ v, Ending.returned (.tuple #[.slice none 0 0, .bool false]) = .returned (.tuple #[v, .bool o.isSome]) ∧ Kd.S k59 59 w' w.heap.size (fun _ => True) v (ofS (o.getD [])) ∧ Below w.heap.size w w' := by
  subst ho
  exact ⟨_, rfl, Kd.S_nil _ _ _ _ _, hB⟩

set_option maxHeartbeats 4000000 in
set_option maxRecDepth 100000 in
theorem refread_short (w : World) (A : Option Addr) (n c : Nat) (p : List Int) (hp : Kd.C (Kd.int .u8) w A n p) (hn : n ≠ 512) :
    Calls Try.prog 27 #[.slice A n c] w fun e w' => ∃ v, e = .returned (.tuple #[v, .bool (readL p).isSome]) ∧ Kd.S k59 59 w' w.heap.size (fun _ => True) v (ofS ((readL p).getD [])) ∧ Below w.heap.size w w' := by
  have hb1 : ((n : Int) != 512) = true := by rw [bne_iff_ne]; omega
  have hmx := hp.2.1
  have hr : readL p = none := by unfold readL; rw [if_pos (.inl (by rw [hp.1]; exact hn))]
  have HR := Aside0.mk hr
  clear hp hr
  go_enter Try.func27, Try.ntmps27
  go_wp2
  go_ret2
  exact ref_no HR.out (Below.refl _ _)

set_option maxHeartbeats 4000000 in
set_option maxRecDepth 100000 in
theorem refread_bad (w : World) (ad : Addr) (c : Nat) (p : List Int) (b0 b1 : Nat) (h0 : b0 < 256) (h1 : b1 < 256) (hx0 : w.cell? ad = some (.int .u8 b0)) (hx1 : w.cell? ⟨ad.block, ad.off + 1, none⟩ = some (.int .u8 b1)) (hbad : 504 < 2 + 4 * (256 * (b0 : Int) + (b1 : Int))) (hr : readL p = none) :
    Calls Try.prog 27 #[.slice (some ad) 512 c] w fun e w' => ∃ v, e = .returned (.tuple #[v, .bool (readL p).isSome]) ∧ Kd.S k59 59 w' w.heap.size (fun _ => True) v (ofS ((readL p).getD [])) ∧ Below w.heap.size w w' := by
  have HR := Aside0.mk hr
  clear hr
  go_enter Try.func27, Try.ntmps27
  go_wp2
  go_quiet (fail)
  go_wp2
  go_ret2
  exact ref_no HR.out (by repeat (first | exact Below.refl _ _ | apply pw_below_drewN | apply below_drew1))

def longstopref12_read.T20 : Bool × List (List Nat × List Nat) := (true, [([], []), ([0], [0]), ([1], [1]), ([2, 1], [2]), ([3], [3]), ([4, 3, 3], [3, 4]), ([5, 3], [3, 5]), ([3], [3]), ([7, 3], [3, 7]), ([6, 8, 3], [3, 6, 8]), ([3, 9], [3, 9])])
def longstopref12_read.B20 : List Nat := [0, 1, 3, 7, 15, 31, 63, 15, 143, 511, 1023]
theorem longstopref12_read.tab20 : rtab .any (opsOf Try.f27 20) = longstopref12_read.T20 := by kernel_rfl
theorem longstopref12_read.bits20 : waitsOk longstopref12_read.T20.2 longstopref12_read.B20 = true := by kernel_rfl
/-- what is added to what has been read. -/
theorem S_pushed {w : World} {base : Nat} {ok : Nat → Prop} {v : Value} {s : Slots} {x : Option (List Int)} {y : S59} (hy : ofS [x] = [y]) (h : Kd.S k59 59 w base ok v (ofS s ++ [y])) : Kd.S k59 59 w base ok v (ofS (s ++ [x])) := by
  rw [ofS_append, hy]
  exact h

set_option maxHeartbeats 8000000 in
set_option maxRecDepth 100000 in
theorem refread_main (w : World) (ad : Addr) (c : Nat) (p : List Int) (hp : Kd.C (Kd.int .u8) w (some ad) 512 p) (hc : 512 ≤ c) (hby : Bytes p) (b0 b1 : Nat) (h0 : b0 < 256) (h1 : b1 < 256) (hx0 : w.cell? ad = some (.int .u8 b0)) (hx1 : w.cell? ⟨ad.block, ad.off + 1, none⟩ = some (.int .u8 b1)) (hfit : 2 + 4 * (256 * (b0 : Int) + (b1 : Int)) ≤ 504)
    (hrl : readL p = (coll p (flds p (256 * b0 + b1))).bind fun st => if roomL st.1 < 0 ∨ pageL st.1 ≠ p then none else some st.1) :
    Calls Try.prog 27 #[.slice (some ad) 512 c] w fun e w' => ∃ v, e = .returned (.tuple #[v, .bool (readL p).isSome]) ∧ Kd.S k59 59 w' w.heap.size (fun _ => True) v (ofS ((readL p).getD [])) ∧ Below w.heap.size w w' := by
  have hu59 := Try.underlying59
  have HP := Aside0.mk hp
  have HRL := Aside0.mk hrl
  have HB := Aside0.mk (Below.refl w.heap.size w)
  clear hp hrl
  go_enter Try.func27, Try.ntmps27
  go_wp2
  go_quiet (fail)
  have n0_ := Aside0.mk (pw_below_drewN HB.out nq)
  clear HB
  have HB := n0_
  clear n0_
  go_wp2_with ((with_reducible refine gate_dst (N := 28) rfl ?_); refine Kd.S_lit k59 _ 59 ?hg (N := 28) ?hd (xs := ([] : List (S59))) (inner := []) (ok := fun _ => True) (okp := fun _ => True) ?hr ?hp (fun _ hk => hk) trivial (Below.refl _ _) (Nat.le_refl _) (by simp) ?_; (case hd => rfl); (case hg => rfl); (case hr => first | (go_simp; done) | (go_simp; rfl)); (case hp => exact (Reps.none _ _)); intro v105 w8 ho9 hb hg_ hnew_; clear hg_ hnew_; have n0_ := Aside0.mk (Kd.S_lower ho9 (below_size (by repeat (first | (with_reducible first | exact HB.out | apply below_alloc | apply pw_below_drewN | apply below_drew1) | exact HB.out)))); have n1_ := Aside0.mk (below_step (by repeat (first | (with_reducible first | exact HB.out | apply below_alloc | apply pw_below_drewN | apply below_drew1) | exact HB.out)) hb); clear HB; have HO106 := n0_; have HB := n1_; clear n0_ n1_; clear hb ho9)
  go_loopg [5, 6, 7] (256 * b0 + b1) (fun kq v5 v6 v7 w' => ∃ (s : Slots) (tot j : Nat), v6 = .int .i64 (tot : Int) ∧ v7 = .int .i64 (j : Int) ∧ Aside0 (j + kq = 256 * b0 + b1) ∧ Aside0 (coll p (flds p j) = some (s, ((504 - tot : Nat) : Int))) ∧ Aside0 (tot ≤ 504) ∧ Aside0 (Kd.S k59 59 w' w.heap.size (fun _ => True) v5 (ofS s)) ∧ Aside0 (Below w.heap.size w w'))
  case atStart => exact ⟨[], 0, 0, rfl, rfl, ⟨Nat.zero_add _⟩, ⟨rfl⟩, ⟨Nat.zero_le _⟩, HO106, HB⟩
  case round =>
    clear hx0 hx1 HO106 HB
    obtain ⟨s, tot, j, rfl, rfl, HJ, HCO, HT, HO_5, HB⟩ := hrel
    have hT := HT.out
    obtain ⟨hk1, hk2, hk3⟩ := coll_keeps (Kd.C_len HP.out) hby j s _ HCO.out
    have hk3' : s.length ≤ 125 := by have := HJ.out; omega
    have hk1' : sizes s ≤ 504 := by omega
    have HK1 := Aside0.mk hk1
    have HK2 := Aside0.mk hk2
    have HK3 := Aside0.mk hk3
    have HL : Aside0 ((ofS s).length ≤ 125) := ⟨by rw [ofS_length]; exact hk3'⟩
    clear hk1 hk2 hk3
    cases gk with
    | zero =>
      have hj : ¬ ((j : Int) < 256 * (b0 : Int) + (b1 : Int)) := by have := HJ.out; omega
      obtain ⟨x5_1, hx5⟩ : ∃ x, x = ofS s := ⟨_, rfl⟩
      obtain ⟨t125, ht125⟩ : ∃ t, t = roomL s := ⟨_, rfl⟩
      have A52 := Aside0.mk (roomS s (by omega) (by omega))
      rw [← hx5] at HO_5 HL
      have hrl2 : readL p = if roomL s < 0 ∨ pageL s ≠ p then none else some s := by
        rw [HRL.out, ← HJ.out, Nat.add_zero, HCO.out]
        rfl
      rw [← ht125] at hrl2
      have HRL2 := Aside0.mk hrl2
      have HT5 := Aside0.mk ht125
      have HX5 := Aside0.mk hx5
      have A52 : Aside0 (longstopref12_room.f (s.length + 1) x5_1 = some t125) := ⟨by rw [hx5, ht125]; exact A52.out⟩
      clear hrl2 ht125 hx5 hk3' hk1'
      by_cases c53 : t125 < 0
      · have c53b0 : decide (t125 < 0) = true := decide_eq_true c53
        have hr : readL p = none := by rw [HRL2.out, if_pos (.inl c53)]
        have HR := Aside0.mk hr
        clear hr c53
        try go_wp2
        have n0_ := Aside0.mk (Kd.S_drew HO_5.out)
        have n1_ := Aside0.mk (below_drew1 HB.out)
        clear HO_5
        clear HB
        have HO_5 := n0_
        have HB := n1_
        clear n0_ n1_
        obtain ⟨Ao55, co55, eo55⟩ := Kd.S_slice HO_5.out
        (first | subst eo55 | (injection eo55 with f1_ f2_ f3_; have f4_ := f1_.symm; have f5_ := f3_.symm; clear f1_ f2_ f3_; subst f4_; subst f5_))
        refine start_ (n := 11) (S := fun w' => True) (ds := []) #[false, false, false, false, false, false, false, false, false, false, false] (by kernel_rfl) rfl rfl trivial (fun hHeld => ?_); refine with_tabW longstopref12_read.tab20 longstopref12_read.bits20 (fun HT_ HW_ => ?_)
        generalize wr.drew = w54 at HO_5 HB hHeld ⊢
        refine pure_ (i := 0) (N := some 95) (v := ?_) (a' := ?_) #[true, false, false, false, false, false, false, false, false, false, false] rfl rfl (any_of HT_.out (by kernel_rfl)) (fun _ _ _ h => h) (Or.inl ⟨by rfl, ?_⟩) ?_ ?_
        rotate_left
        · intro w'
          go_simp
          with_reducible rfl
        rotate_left
        · simp only [Act.put, List.setIfInBounds_toArray, List.set_cons_zero, List.set_cons_succ, i64_w, i32_w]
          rfl
        refine one_ (i := 1) (N := some 96) #[true, true, false, false, false, false, false, false, false, false, false] rfl rfl (one_of HT_.out (by kernel_rfl)) (by decide) (fun K hK => ?_)
        refine goes_ Try.func29 (by kernel_rfl) rfl #[.slice Ao55 x5_1.length co55] (by rfl) rfl rfl (by (try simp only [List.map_toArray, List.map_cons, List.map_nil]); first | done | rfl | (simp only [List.length_drop, List.length_take]; rfl)) ?_
        with_reducible refine (longstopref12_room.calls (s.length + 1) _ _ x5_1 t125 _ ?side1 ?side2 A52.out).mono ?_
        (case side1 => repeat (first | exact (Kd.S_reads' HO_5.out).2.2 | (with_reducible refine Kd.C_alloc ?_ _) | (with_reducible refine Kd.C_drewN ?_ _) | (with_reducible refine Kd.C_drew ?_)))
        (case side2 => exact (Kd.S_reads' HO_5.out).2.1)
        rintro e w' ⟨rfl, ⟨nd, rfl⟩⟩
        refine ⟨_, rfl, ?_⟩
        refine hK.out _ _ trivial (fun hHeld => ?_)
        clear hK K
        refine norm_ (a' := ?_) ?_ ?_
        rotate_left
        · show Act.put _ (some 96) _ = _
          simp only [Act.put, List.setIfInBounds_toArray, List.set_cons_zero, List.set_cons_succ, i64_w, i32_w]
          rfl
        refine pure_ (i := 2) (N := some 97) (v := ?_) (a' := ?_) #[true, true, true, false, false, false, false, false, false, false, false] rfl rfl (any_of HT_.out (by kernel_rfl)) (fun _ _ _ h => h) (Or.inl ⟨by rfl, ?_⟩) ?_ ?_
        rotate_left
        · intro w'
          go_simp
          with_reducible rfl
        rotate_left
        · simp only [Act.put, List.setIfInBounds_toArray, List.set_cons_zero, List.set_cons_succ, i64_w, i32_w]
          rfl
        refine pure_ (i := 3) (N := some 98) (v := ?_) (a' := ?_) #[true, true, true, true, false, false, false, false, false, false, false] rfl rfl (any_of HT_.out (by kernel_rfl)) (fun _ _ _ h => h) (Or.inl ⟨by rfl, ?_⟩) ?_ ?_
        rotate_left
        · intro w'
          go_simp
          with_reducible rfl
        rotate_left
        · simp only [Act.put, List.setIfInBounds_toArray, List.set_cons_zero, List.set_cons_succ, i64_w, i32_w]
          rfl
        refine pure_ (i := 4) (N := some 99) (v := undef) (a' := ?_) #[true, true, true, true, true, false, false, false, false, false, false] rfl rfl (any_of HT_.out (by kernel_rfl)) (fun _ _ _ h => h) (Or.inr ⟨by rfl, rfl⟩) ?_ ?_
        rotate_left
        · simp only [Act.put, List.setIfInBounds_toArray, List.set_cons_zero, List.set_cons_succ, i64_w, i32_w]
          rfl
        refine pure_ (i := 5) (N := some 100) (v := undef) (a' := ?_) #[true, true, true, true, true, true, false, false, false, false, false] rfl rfl (any_of HT_.out (by kernel_rfl)) (fun _ _ _ h => h) (Or.inr ⟨by rfl, rfl⟩) ?_ ?_
        rotate_left
        · simp only [Act.put, List.setIfInBounds_toArray, List.set_cons_zero, List.set_cons_succ, i64_w, i32_w]
          rfl
        refine pure_ (i := 6) (N := some 101) (v := undef) (a' := ?_) #[true, true, true, true, true, true, true, false, false, false, false] rfl rfl (any_of HT_.out (by kernel_rfl)) (fun _ _ _ h => h) (Or.inr ⟨by rfl, rfl⟩) ?_ ?_
        rotate_left
        · simp only [Act.put, List.setIfInBounds_toArray, List.set_cons_zero, List.set_cons_succ, i64_w, i32_w]
          rfl
        refine pure_ (i := 7) (N := some 102) (v := undef) (a' := ?_) #[true, true, true, true, true, true, true, true, false, false, false] rfl rfl (any_of HT_.out (by kernel_rfl)) (fun _ _ _ h => h) (Or.inr ⟨by rfl, rfl⟩) ?_ ?_
        rotate_left
        · simp only [Act.put, List.setIfInBounds_toArray, List.set_cons_zero, List.set_cons_succ, i64_w, i32_w]
          rfl
        refine pure_ (i := 8) (N := some 103) (v := undef) (a' := ?_) #[true, true, true, true, true, true, true, true, true, false, false] rfl rfl (any_of HT_.out (by kernel_rfl)) (fun _ _ _ h => h) (Or.inr ⟨by rfl, rfl⟩) ?_ ?_
        rotate_left
        · simp only [Act.put, List.setIfInBounds_toArray, List.set_cons_zero, List.set_cons_succ, i64_w, i32_w]
          rfl
        refine pure_ (i := 9) (N := some 104) (v := undef) (a' := ?_) #[true, true, true, true, true, true, true, true, true, true, false] rfl rfl (any_of HT_.out (by kernel_rfl)) (fun _ _ _ h => h) (Or.inr ⟨by rfl, rfl⟩) ?_ ?_
        rotate_left
        · simp only [Act.put, List.setIfInBounds_toArray, List.set_cons_zero, List.set_cons_succ, i64_w, i32_w]
          rfl
        refine pure_ (i := 10) (N := some 105) (v := ?_) (a' := ?_) #[true, true, true, true, true, true, true, true, true, true, true] rfl rfl (any_of HT_.out (by kernel_rfl)) (fun _ _ _ h => h) (Or.inl ⟨by rfl, ?_⟩) ?_ ?_
        rotate_left
        · intro w'
          go_simp
          with_reducible rfl
        rotate_left
        · simp only [Act.put, List.setIfInBounds_toArray, List.set_cons_zero, List.set_cons_succ, i64_w, i32_w]
          rfl
        refine done_ (done_of HT_.out (by kernel_rfl)) ?_
        try go_wp2
        go_ret2
        exact ref_no HR.out (by repeat (first | (with_reducible first | exact HB.out | apply below_alloc | apply pw_below_drewN | apply below_drew1) | exact HB.out))
      · have c53b0 : decide (t125 < 0) = false := decide_eq_false c53
        have hfit2 : Fits s := by have := HT5.out; unfold Fits; unfold roomL at this; omega
        obtain ⟨t126, ht126⟩ : ∃ t, t = pageL s := ⟨_, rfl⟩
        have A56 : Aside0 (longstopref12_write.f x5_1 = some t126) := ⟨by rw [HX5.out, ht126]; exact writeS hfit2 HK2.out⟩
        have hts : ((strOfNums t126).toList = (strOfNums p).toList) ↔ pageL s = p := by rw [ht126]; exact bytes_eq (bytes_page HK2.out) hby
        have HTS := Aside0.mk hts
        have C53 := Aside0.mk c53
        clear hts ht126 hfit2 c53
        by_cases c57 : (strOfNums t126).toList = (strOfNums p).toList
        · have c57b0 : ((strOfNums t126).toList == (strOfNums p).toList) = true := beq_iff_eq.mpr c57
          have c57b1 : ((strOfNums t126).toList != (strOfNums p).toList) = false := bne_eq_false_iff_eq.mpr c57
          have hr : readL p = some s := by rw [HRL2.out, if_neg (by rintro (h | h); exact C53.out h; exact h (HTS.out.1 c57))]
          have HR := Aside0.mk hr
          clear hr c57
          obtain ⟨Ao58, co58, eo58⟩ := Kd.S_slice HO_5.out
          subst eo58
          try go_wp2
          have n0_ := Aside0.mk (Kd.S_drew HO_5.out)
          have n1_ := Aside0.mk (below_drew1 HB.out)
          clear HO_5
          clear HB
          have HO_5 := n0_
          have HB := n1_
          clear n0_ n1_
          refine start_ (n := 11) (S := fun w' => Kd.C (Kd.int .u8) w' (some ad) 512 p) (ds := []) #[false, false, false, false, false, false, false, false, false, false, false] (by kernel_rfl) rfl rfl (Kd.C_below HP.out (by repeat (first | (with_reducible first | exact HB.out | apply below_alloc | apply pw_below_drewN | apply below_drew1) | exact HB.out))) (fun hHeld => ?_); refine with_tabW longstopref12_read.tab20 longstopref12_read.bits20 (fun HT_ HW_ => ?_)
          generalize wr.drew = w59 at HO_5 HB hHeld ⊢
          refine pure_ (i := 0) (N := some 95) (v := ?_) (a' := ?_) #[true, false, false, false, false, false, false, false, false, false, false] rfl rfl (any_of HT_.out (by kernel_rfl)) (fun _ _ _ h => h) (Or.inl ⟨by rfl, ?_⟩) ?_ ?_
          rotate_left
          · intro w'
            go_simp
            with_reducible rfl
          rotate_left
          · simp only [Act.put, List.setIfInBounds_toArray, List.set_cons_zero, List.set_cons_succ, i64_w, i32_w]
            rfl
          refine one_ (i := 1) (N := some 96) #[true, true, false, false, false, false, false, false, false, false, false] rfl rfl (one_of HT_.out (by kernel_rfl)) (by decide) (fun K hK => ?_)
          refine goes_ Try.func29 (by kernel_rfl) rfl #[.slice Ao58 x5_1.length co58] (by rfl) rfl rfl (by (try simp only [List.map_toArray, List.map_cons, List.map_nil]); first | done | rfl | (simp only [List.length_drop, List.length_take]; rfl)) ?_
          with_reducible refine (longstopref12_room.calls (s.length + 1) _ _ x5_1 t125 _ ?side1 ?side2 A52.out).mono ?_
          (case side1 => repeat (first | exact (Kd.S_reads' HO_5.out).2.2 | (with_reducible refine Kd.C_alloc ?_ _) | (with_reducible refine Kd.C_drewN ?_ _) | (with_reducible refine Kd.C_drew ?_)))
          (case side2 => exact (Kd.S_reads' HO_5.out).2.1)
          rintro e w' ⟨rfl, ⟨nd, rfl⟩⟩
          refine ⟨_, rfl, ?_⟩
          refine hK.out _ _ (Kd.C_below HP.out (by repeat (first | (with_reducible first | exact HB.out | apply below_alloc | apply pw_below_drewN | apply below_drew1) | exact HB.out))) (fun hHeld => ?_)
          clear hK K
          refine norm_ (a' := ?_) ?_ ?_
          rotate_left
          · show Act.put _ (some 96) _ = _
            simp only [Act.put, List.setIfInBounds_toArray, List.set_cons_zero, List.set_cons_succ, i64_w, i32_w]
            rfl
          refine pure_ (i := 2) (N := some 97) (v := ?_) (a' := ?_) #[true, true, true, false, false, false, false, false, false, false, false] rfl rfl (any_of HT_.out (by kernel_rfl)) (fun _ _ _ h => h) (Or.inl ⟨by rfl, ?_⟩) ?_ ?_
          rotate_left
          · intro w'
            go_simp
            with_reducible rfl
          rotate_left
          · simp only [Act.put, List.setIfInBounds_toArray, List.set_cons_zero, List.set_cons_succ, i64_w, i32_w]
            rfl
          refine pure_ (i := 3) (N := some 98) (v := ?_) (a' := ?_) #[true, true, true, true, false, false, false, false, false, false, false] rfl rfl (any_of HT_.out (by kernel_rfl)) (fun _ _ _ h => h) (Or.inl ⟨by rfl, ?_⟩) ?_ ?_
          rotate_left
          · intro w'
            go_simp
            with_reducible rfl
          rotate_left
          · simp only [Act.put, List.setIfInBounds_toArray, List.set_cons_zero, List.set_cons_succ, i64_w, i32_w]
            rfl
          refine pure_ (i := 4) (N := some 99) (v := ?_) (a' := ?_) #[true, true, true, true, true, false, false, false, false, false, false] rfl rfl (any_of HT_.out (by kernel_rfl)) (fun _ _ _ h => h) (Or.inl ⟨by rfl, ?_⟩) ?_ ?_
          rotate_left
          · intro w'
            go_simp
            with_reducible rfl
          rotate_left
          · simp only [Act.put, List.setIfInBounds_toArray, List.set_cons_zero, List.set_cons_succ, i64_w, i32_w]
            rfl
          refine pure_ (i := 7) (N := some 102) (v := ?_) (a' := ?_) #[true, true, true, true, true, false, false, true, false, false, false] rfl rfl (any_of HT_.out (by kernel_rfl)) (fun _ _ _ h => h) (Or.inl ⟨by rfl, ?_⟩) ?_ ?_
          rotate_left
          · intro w'
            go_simp
            with_reducible rfl
          rotate_left
          · simp only [Act.put, List.setIfInBounds_toArray, List.set_cons_zero, List.set_cons_succ, i64_w, i32_w]
            rfl
          refine take_ (i := 8) (N := some 103) (v := ?_) (a' := ?_) #[true, true, true, true, true, false, false, true, true, false, false] rfl rfl (take_ofW HT_.out HW_.out (by kernel_rfl)) (fun _ _ _ h => h) (Or.inl ⟨by rfl, ?_⟩) hHeld ?_ ?_
          rotate_left
          · rintro w' s0
            have hcv0 := Kd.C_string (P := Try.prog) (A := (some ad)) (c := c) Try.underlying22 Try.underlying5 Try.underlying9 s0
            go_simp
            with_reducible rfl
          rotate_left
          · simp only [Act.put, List.setIfInBounds_toArray, List.set_cons_zero, List.set_cons_succ, i64_w, i32_w]
            rfl
          refine one_ (i := 5) (N := some 100) #[true, true, true, true, true, true, false, true, true, false, false] rfl rfl (one_of HT_.out (by kernel_rfl)) (by decide) (fun K hK => ?_)
          refine goes_ Try.func31 (by kernel_rfl) rfl #[.slice Ao58 x5_1.length co58] (by rfl) rfl rfl (by (try simp only [List.map_toArray, List.map_cons, List.map_nil]); first | done | rfl | (simp only [List.length_drop, List.length_take]; rfl)) ?_
          with_reducible refine (longstopref12_write.calls _ _ x5_1 t126 _ ?side1 ?side2 A56.out).mono ?_
          (case side1 => repeat (first | exact (Kd.S_reads' HO_5.out).2.2 | (with_reducible refine Kd.C_alloc ?_ _) | (with_reducible refine Kd.C_drewN ?_ _) | (with_reducible refine Kd.C_drew ?_)))
          (case side2 => exact (Kd.S_reads' HO_5.out).2.1)
          rintro e w60 ⟨v127, rfl, ho0, hb⟩
          refine ⟨_, rfl, ?_⟩
          have n0_ := Aside0.mk (Kd.S_elder' (by (with_reducible repeat (first | apply Kd.S_alloc | apply Kd.S_drewN | apply Kd.S_drew)); exact HO_5.out) (Kd.R_base ho0) hb)
          have n1_ := Aside0.mk (Kd.R_lower ho0 (below_size (by repeat (first | (with_reducible first | exact HB.out | apply below_alloc | apply pw_below_drewN | apply below_drew1) | exact HB.out))))
          have n2_ := Aside0.mk (below_step (by repeat (first | (with_reducible first | exact HB.out | apply below_alloc | apply pw_below_drewN | apply below_drew1) | exact HB.out)) hb)
          clear HO_5
          clear HB
          have HO_5 := n0_
          have HO128 := n1_
          have HB := n2_
          clear n0_ n1_ n2_
          (try clear hb)
          (try clear hb2)
          (try clear hk)
          (try clear hi)
          (try clear ho0)
          refine hK.out _ _ (Kd.C_below HP.out (by repeat (first | (with_reducible first | exact HB.out | apply below_alloc | apply pw_below_drewN | apply below_drew1) | exact HB.out))) (fun hHeld => ?_)
          clear hK K
          refine norm_ (a' := ?_) ?_ ?_
          rotate_left
          · show Act.put _ (some 100) _ = _
            simp only [Act.put, List.setIfInBounds_toArray, List.set_cons_zero, List.set_cons_succ, i64_w, i32_w]
            rfl
          refine one_ (i := 6) (N := some 101) #[true, true, true, true, true, true, true, true, true, false, false] rfl rfl (one_of HT_.out (by kernel_rfl)) (by decide) (fun K hK => ?_)
          have hcv61 := own_string (P := Try.prog) Try.underlying22 Try.underlying5 Try.underlying9 (Kd.own_of_R HO128.out)
          refine value_ (w1 := ?_) (v := ?_) (by rfl) rfl ?_ ?_
          rotate_left 2
          · go_simp
            constructor
            · rfl
            · rfl
          clear hcv61
          refine hK.out _ _ (Kd.C_below HP.out (by repeat (first | (with_reducible first | exact HB.out | apply below_alloc | apply pw_below_drewN | apply below_drew1) | exact HB.out))) (fun hHeld => ?_)
          clear hK K
          refine norm_ (a' := ?_) ?_ ?_
          rotate_left
          · show Act.put _ (some 101) _ = _
            simp only [Act.put, List.setIfInBounds_toArray, List.set_cons_zero, List.set_cons_succ, i64_w, i32_w]
            rfl
          refine pure_ (i := 9) (N := some 104) (v := ?_) (a' := ?_) #[true, true, true, true, true, true, true, true, true, true, false] rfl rfl (any_of HT_.out (by kernel_rfl)) (fun _ _ _ h => h) (Or.inl ⟨by rfl, ?_⟩) ?_ ?_
          rotate_left
          · intro w'
            go_simp
            with_reducible rfl
          rotate_left
          · simp only [Act.put, List.setIfInBounds_toArray, List.set_cons_zero, List.set_cons_succ, i64_w, i32_w]
            rfl
          refine pure_ (i := 10) (N := some 105) (v := ?_) (a' := ?_) #[true, true, true, true, true, true, true, true, true, true, true] rfl rfl (any_of HT_.out (by kernel_rfl)) (fun _ _ _ h => h) (Or.inl ⟨by rfl, ?_⟩) ?_ ?_
          rotate_left
          · intro w'
            go_simp
            with_reducible rfl
          rotate_left
          · simp only [Act.put, List.setIfInBounds_toArray, List.set_cons_zero, List.set_cons_succ, i64_w, i32_w]
            rfl
          refine done_ (done_of HT_.out (by kernel_rfl)) ?_
          try go_wp2
          go_ret2
          rw [HR.out]
          refine ⟨_, by first | rfl | (simp <;> rfl) | (simp [*] <;> rfl), ?_, (by repeat (first | (with_reducible first | exact HB.out | apply below_alloc | apply pw_below_drewN | apply below_drew1) | exact HB.out))⟩
          show Kd.S k59 59 _ w.heap.size (fun _ => True) _ (ofS s)
          rw [← HX5.out]
          (with_reducible repeat (first | apply Kd.S_alloc | apply Kd.S_drewN | apply Kd.S_drew)); exact Kd.S_mono HO_5.out (fun _ hk => trivial)
        · have c57b0 : ((strOfNums t126).toList == (strOfNums p).toList) = false := beq_eq_false_iff_ne.mpr c57
          have c57b1 : ((strOfNums t126).toList != (strOfNums p).toList) = true := bne_iff_ne.mpr c57
          have hr : readL p = none := by rw [HRL2.out, if_pos (.inr (fun h => c57 (HTS.out.2 h)))]
          have HR := Aside0.mk hr
          clear hr c57
          obtain ⟨Ao64, co64, eo64⟩ := Kd.S_slice HO_5.out
          subst eo64
          try go_wp2
          have n0_ := Aside0.mk (Kd.S_drew HO_5.out)
          have n1_ := Aside0.mk (below_drew1 HB.out)
          clear HO_5
          clear HB
          have HO_5 := n0_
          have HB := n1_
          clear n0_ n1_
          refine start_ (n := 11) (S := fun w' => Kd.C (Kd.int .u8) w' (some ad) 512 p) (ds := []) #[false, false, false, false, false, false, false, false, false, false, false] (by kernel_rfl) rfl rfl (Kd.C_below HP.out (by repeat (first | (with_reducible first | exact HB.out | apply below_alloc | apply pw_below_drewN | apply below_drew1) | exact HB.out))) (fun hHeld => ?_); refine with_tabW longstopref12_read.tab20 longstopref12_read.bits20 (fun HT_ HW_ => ?_)
          generalize wr.drew = w65 at HO_5 HB hHeld ⊢
          refine pure_ (i := 0) (N := some 95) (v := ?_) (a' := ?_) #[true, false, false, false, false, false, false, false, false, false, false] rfl rfl (any_of HT_.out (by kernel_rfl)) (fun _ _ _ h => h) (Or.inl ⟨by rfl, ?_⟩) ?_ ?_
          rotate_left
          · intro w'
            go_simp
            with_reducible rfl
          rotate_left
          · simp only [Act.put, List.setIfInBounds_toArray, List.set_cons_zero, List.set_cons_succ, i64_w, i32_w]
            rfl
          refine one_ (i := 1) (N := some 96) #[true, true, false, false, false, false, false, false, false, false, false] rfl rfl (one_of HT_.out (by kernel_rfl)) (by decide) (fun K hK => ?_)
          refine goes_ Try.func29 (by kernel_rfl) rfl #[.slice Ao64 x5_1.length co64] (by rfl) rfl rfl (by (try simp only [List.map_toArray, List.map_cons, List.map_nil]); first | done | rfl | (simp only [List.length_drop, List.length_take]; rfl)) ?_
          with_reducible refine (longstopref12_room.calls (s.length + 1) _ _ x5_1 t125 _ ?side1 ?side2 A52.out).mono ?_
          (case side1 => repeat (first | exact (Kd.S_reads' HO_5.out).2.2 | (with_reducible refine Kd.C_alloc ?_ _) | (with_reducible refine Kd.C_drewN ?_ _) | (with_reducible refine Kd.C_drew ?_)))
          (case side2 => exact (Kd.S_reads' HO_5.out).2.1)
          rintro e w' ⟨rfl, ⟨nd, rfl⟩⟩
          refine ⟨_, rfl, ?_⟩
          refine hK.out _ _ (Kd.C_below HP.out (by repeat (first | (with_reducible first | exact HB.out | apply below_alloc | apply pw_below_drewN | apply below_drew1) | exact HB.out))) (fun hHeld => ?_)
          clear hK K
          refine norm_ (a' := ?_) ?_ ?_
          rotate_left
          · show Act.put _ (some 96) _ = _
            simp only [Act.put, List.setIfInBounds_toArray, List.set_cons_zero, List.set_cons_succ, i64_w, i32_w]
            rfl
          refine pure_ (i := 2) (N := some 97) (v := ?_) (a' := ?_) #[true, true, true, false, false, false, false, false, false, false, false] rfl rfl (any_of HT_.out (by kernel_rfl)) (fun _ _ _ h => h) (Or.inl ⟨by rfl, ?_⟩) ?_ ?_
          rotate_left
          · intro w'
            go_simp
            with_reducible rfl
          rotate_left
          · simp only [Act.put, List.setIfInBounds_toArray, List.set_cons_zero, List.set_cons_succ, i64_w, i32_w]
            rfl
          refine pure_ (i := 3) (N := some 98) (v := ?_) (a' := ?_) #[true, true, true, true, false, false, false, false, false, false, false] rfl rfl (any_of HT_.out (by kernel_rfl)) (fun _ _ _ h => h) (Or.inl ⟨by rfl, ?_⟩) ?_ ?_
          rotate_left
          · intro w'
            go_simp
            with_reducible rfl
          rotate_left
          · simp only [Act.put, List.setIfInBounds_toArray, List.set_cons_zero, List.set_cons_succ, i64_w, i32_w]
            rfl
          refine pure_ (i := 4) (N := some 99) (v := ?_) (a' := ?_) #[true, true, true, true, true, false, false, false, false, false, false] rfl rfl (any_of HT_.out (by kernel_rfl)) (fun _ _ _ h => h) (Or.inl ⟨by rfl, ?_⟩) ?_ ?_
          rotate_left
          · intro w'
            go_simp
            with_reducible rfl
          rotate_left
          · simp only [Act.put, List.setIfInBounds_toArray, List.set_cons_zero, List.set_cons_succ, i64_w, i32_w]
            rfl
          refine pure_ (i := 7) (N := some 102) (v := ?_) (a' := ?_) #[true, true, true, true, true, false, false, true, false, false, false] rfl rfl (any_of HT_.out (by kernel_rfl)) (fun _ _ _ h => h) (Or.inl ⟨by rfl, ?_⟩) ?_ ?_
          rotate_left
          · intro w'
            go_simp
            with_reducible rfl
          rotate_left
          · simp only [Act.put, List.setIfInBounds_toArray, List.set_cons_zero, List.set_cons_succ, i64_w, i32_w]
            rfl
          refine take_ (i := 8) (N := some 103) (v := ?_) (a' := ?_) #[true, true, true, true, true, false, false, true, true, false, false] rfl rfl (take_ofW HT_.out HW_.out (by kernel_rfl)) (fun _ _ _ h => h) (Or.inl ⟨by rfl, ?_⟩) hHeld ?_ ?_
          rotate_left
          · rintro w' s0
            have hcv0 := Kd.C_string (P := Try.prog) (A := (some ad)) (c := c) Try.underlying22 Try.underlying5 Try.underlying9 s0
            go_simp
            with_reducible rfl
          rotate_left
          · simp only [Act.put, List.setIfInBounds_toArray, List.set_cons_zero, List.set_cons_succ, i64_w, i32_w]
            rfl
          refine one_ (i := 5) (N := some 100) #[true, true, true, true, true, true, false, true, true, false, false] rfl rfl (one_of HT_.out (by kernel_rfl)) (by decide) (fun K hK => ?_)
          refine goes_ Try.func31 (by kernel_rfl) rfl #[.slice Ao64 x5_1.length co64] (by rfl) rfl rfl (by (try simp only [List.map_toArray, List.map_cons, List.map_nil]); first | done | rfl | (simp only [List.length_drop, List.length_take]; rfl)) ?_
          with_reducible refine (longstopref12_write.calls _ _ x5_1 t126 _ ?side1 ?side2 A56.out).mono ?_
          (case side1 => repeat (first | exact (Kd.S_reads' HO_5.out).2.2 | (with_reducible refine Kd.C_alloc ?_ _) | (with_reducible refine Kd.C_drewN ?_ _) | (with_reducible refine Kd.C_drew ?_)))
          (case side2 => exact (Kd.S_reads' HO_5.out).2.1)
          rintro e w66 ⟨v127, rfl, ho0, hb⟩
          refine ⟨_, rfl, ?_⟩
          have n0_ := Aside0.mk (Kd.S_elder' (by (with_reducible repeat (first | apply Kd.S_alloc | apply Kd.S_drewN | apply Kd.S_drew)); exact HO_5.out) (Kd.R_base ho0) hb)
          have n1_ := Aside0.mk (Kd.R_lower ho0 (below_size (by repeat (first | (with_reducible first | exact HB.out | apply below_alloc | apply pw_below_drewN | apply below_drew1) | exact HB.out))))
          have n2_ := Aside0.mk (below_step (by repeat (first | (with_reducible first | exact HB.out | apply below_alloc | apply pw_below_drewN | apply below_drew1) | exact HB.out)) hb)
          clear HO_5
          clear HB
          have HO_5 := n0_
          have HO128 := n1_
          have HB := n2_
          clear n0_ n1_ n2_
          (try clear hb)
          (try clear hb2)
          (try clear hk)
          (try clear hi)
          (try clear ho0)
          refine hK.out _ _ (Kd.C_below HP.out (by repeat (first | (with_reducible first | exact HB.out | apply below_alloc | apply pw_below_drewN | apply below_drew1) | exact HB.out))) (fun hHeld => ?_)
          clear hK K
          refine norm_ (a' := ?_) ?_ ?_
          rotate_left
          · show Act.put _ (some 100) _ = _
            simp only [Act.put, List.setIfInBounds_toArray, List.set_cons_zero, List.set_cons_succ, i64_w, i32_w]
            rfl
          refine one_ (i := 6) (N := some 101) #[true, true, true, true, true, true, true, true, true, false, false] rfl rfl (one_of HT_.out (by kernel_rfl)) (by decide) (fun K hK => ?_)
          have hcv67 := own_string (P := Try.prog) Try.underlying22 Try.underlying5 Try.underlying9 (Kd.own_of_R HO128.out)
          refine value_ (w1 := ?_) (v := ?_) (by rfl) rfl ?_ ?_
          rotate_left 2
          · go_simp
            constructor
            · rfl
            · rfl
          clear hcv67
          refine hK.out _ _ (Kd.C_below HP.out (by repeat (first | (with_reducible first | exact HB.out | apply below_alloc | apply pw_below_drewN | apply below_drew1) | exact HB.out))) (fun hHeld => ?_)
          clear hK K
          refine norm_ (a' := ?_) ?_ ?_
          rotate_left
          · show Act.put _ (some 101) _ = _
            simp only [Act.put, List.setIfInBounds_toArray, List.set_cons_zero, List.set_cons_succ, i64_w, i32_w]
            rfl
          refine pure_ (i := 9) (N := some 104) (v := ?_) (a' := ?_) #[true, true, true, true, true, true, true, true, true, true, false] rfl rfl (any_of HT_.out (by kernel_rfl)) (fun _ _ _ h => h) (Or.inl ⟨by rfl, ?_⟩) ?_ ?_
          rotate_left
          · intro w'
            go_simp
            with_reducible rfl
          rotate_left
          · simp only [Act.put, List.setIfInBounds_toArray, List.set_cons_zero, List.set_cons_succ, i64_w, i32_w]
            rfl
          refine pure_ (i := 10) (N := some 105) (v := ?_) (a' := ?_) #[true, true, true, true, true, true, true, true, true, true, true] rfl rfl (any_of HT_.out (by kernel_rfl)) (fun _ _ _ h => h) (Or.inl ⟨by rfl, ?_⟩) ?_ ?_
          rotate_left
          · intro w'
            go_simp
            with_reducible rfl
          rotate_left
          · simp only [Act.put, List.setIfInBounds_toArray, List.set_cons_zero, List.set_cons_succ, i64_w, i32_w]
            rfl
          refine done_ (done_of HT_.out (by kernel_rfl)) ?_
          try go_wp2
          go_ret2
          exact ref_no HR.out (by repeat (first | (with_reducible first | exact HB.out | apply below_alloc | apply pw_below_drewN | apply below_drew1) | exact HB.out))
    | succ k1 =>
      have hlt : (j : Int) < 256 * (b0 : Int) + (b1 : Int) := by have := HJ.out; omega
      have hj124 : j ≤ 124 := by omega
      clear hk3' hk1'
      obtain ⟨c0, e0, f0⟩ := hby.nat (i := 2 + 4 * j) (by rw [Kd.C_len HP.out]; omega)
      obtain ⟨c1, e1, f1⟩ := hby.nat (i := 2 + 4 * j + 1) (by rw [Kd.C_len HP.out]; omega)
      obtain ⟨c2, e2, f2⟩ := hby.nat (i := 2 + 4 * j + 2) (by rw [Kd.C_len HP.out]; omega)
      obtain ⟨c3, e3, f3⟩ := hby.nat (i := 2 + 4 * j + 3) (by rw [Kd.C_len HP.out]; omega)
      have hfa := field_bytes p j
      rw [e0, e1, e2, e3] at hfa
      have hfo := fieldOf_eq hby j (by rw [Kd.C_len HP.out]; omega)
      have hs1 : coll p (flds p (j + 1)) = readStep p (256 * (c0 : Int) + c1, 256 * (c2 : Int) + c3) (s, ((504 - tot : Nat) : Int)) := by rw [flds_succ, coll_snoc, HCO.out, Option.bind_some, hfo, hfa]
      have hs1' := hs1
      unfold readStep at hs1'
      simp only at hs1'
      have HS1 := Aside0.mk hs1'
      clear hfa hfo hs1 hs1'
      have hC0 := cut_from (Kd.C_below HP.out HB.out) (2 + 4 * j) (by omega) hc (by omega)
      have hC1 := cut_to hC0 4 (by omega)
      have hsl := cutA_mid ad 512 c (2 + 4 * (j : Int)) (6 + 4 * (j : Int)) (2 + 4 * j) (6 + 4 * j) (by omega) (by omega) (by omega) (by omega) (by omega)
      rw [show 6 + 4 * j - (2 + 4 * j) = 4 from by omega] at hsl
      obtain ⟨F, hF⟩ : ∃ F, F = (p.drop (2 + 4 * j)).take 4 := ⟨_, rfl⟩
      rw [← hF] at hC1
      have g0 : rd F 0 = (c0 : Int) := by rw [hF, ← e0]; unfold rd; simp [List.getD_eq_getElem?_getD, List.getElem?_take, List.getElem?_drop]
      have g1 : rd F 1 = (c1 : Int) := by rw [hF, ← e1]; unfold rd; simp [List.getD_eq_getElem?_getD, List.getElem?_take, List.getElem?_drop]
      have g2 : rd F 2 = (c2 : Int) := by rw [hF, ← e2]; unfold rd; simp [List.getD_eq_getElem?_getD, List.getElem?_take, List.getElem?_drop]
      have g3 : rd F 3 = (c3 : Int) := by rw [hF, ← e3]; unfold rd; simp [List.getD_eq_getElem?_getD, List.getElem?_take, List.getElem?_drop]
      clear e0 e1 e2 e3 hF hC0
      obtain ⟨a2, ha2⟩ : ∃ a, a = ad.add (2 + 4 * j) := ⟨_, rfl⟩
      obtain ⟨cc, hcc⟩ : ∃ a, a = c - (2 + 4 * j) := ⟨_, rfl⟩
      rw [← ha2] at hC1 hsl
      rw [← hcc] at hsl
      clear ha2 hcc
      obtain ⟨ad4, q4, y0⟩ := Kd.at_int hC1 0 (by omega) (by omega)
      cases q4
      obtain ⟨ad4, q4, y1⟩ := Kd.at_int hC1 1 (by omega) (by omega)
      cases q4
      obtain ⟨ad4, q4, y2⟩ := Kd.at_int hC1 2 (by omega) (by omega)
      cases q4
      obtain ⟨ad4, q4, y3⟩ := Kd.at_int hC1 3 (by omega) (by omega)
      cases q4
      rw [g0, show ((0 : Int)).toNat = 0 from rfl, Addr.add_zero'] at y0
      rw [g1] at y1
      rw [g2] at y2
      rw [g3] at y3
      simp only [show (1 : Int).toNat = 1 from rfl, show (2 : Int).toNat = 2 from rfl, show (3 : Int).toNat = 3 from rfl, Nat.reduceMul, Nat.reduceEqDiff, Go.Addr.add, ↓reduceIte] at y1 y2 y3
      clear g0 g1 g2 g3 hC1 F
      by_cases ha : 256 * (c0 : Int) + (c1 : Int) = 0
      · have hs2 : coll p (flds p (j + 1)) = some (s ++ [none], ((504 - tot : Nat) : Int)) := by rw [HS1.out, if_pos ha]
        have HS2 := Aside0.mk hs2
        have hab : ((256 * (c0 : Int) + (c1 : Int)) == 0) = true := beq_iff_eq.2 ha
        clear ha hs2
        go_wp2
        go_quiet (fail)
        go_wp2
        go_quiet (fail)
        go_wp2_with ((with_reducible refine gate_builtin (b := .append) (xs := #[.tmp 64, .tmp 66]) rfl ?_); at_builtin; refine Kd.S_append k59 (w0 := w) w.heap.size rfl (.tmp 64) (.tmp 66) 55 59 (.agg #[(.slice none 0 0), (.bool false)]) 32 rfl Try.underlying55 info59 rfl (by decide) (by omega) u5 (ofS s) (⟨([] : List Int), false⟩ : S59) [.slice none 0 0, .bool false] (fun _ => True) (fun _ => False) rfl rfl ?aP (fun k_ hk_ => hk_.elim) ?aF ?aO ?aB ?aS ?aL ?_; (case aP => exact k59_mkM _ _ _ (⟨([] : List Int), false⟩ : S59) (Kd.R_nil _ _ _ _ _)); (case aB => exact (by repeat (first | (with_reducible first | exact HB.out | apply below_alloc | apply pw_below_drewN | apply below_drew1) | exact HB.out))); (case aF => exact (fun _ _ => trivial)); (case aO => exact (by (with_reducible repeat (first | apply Kd.S_alloc | apply Kd.S_drewN | apply Kd.S_drew)); exact Kd.S_mono HO_5.out (fun k_ hk => ⟨trivial, fun e_ => e_⟩))); (case aS => exact (below_size (by repeat (first | (with_reducible first | exact HB.out | apply below_alloc | apply pw_below_drewN | apply below_drew1) | exact HB.out)))); (case aL => have := HL.out; omega); intro v113 w24 ho hb hg hat; have n0_ := Aside0.mk (hb); have n1_ := Aside0.mk (S_pushed (x := none) rfl ho); clear HB; clear HO_5; have HB := n0_; have HO114 := n1_; clear n0_ n1_; clear ho hb hg hat)
        go_roundg k1
        case measure => omega
        case rel => exact ⟨s ++ [none], tot, j + 1, rfl, (by go_num), ⟨by have := HJ.out; omega⟩, HS2, HT, ⟨by (with_reducible repeat (first | apply Kd.S_alloc | apply Kd.S_drewN | apply Kd.S_drew)); exact HO114.out⟩, ⟨by repeat (first | (with_reducible first | exact HB.out | apply below_alloc | apply pw_below_drewN | apply below_drew1) | exact HB.out)⟩⟩
      · have hab : ((256 * (c0 : Int) + (c1 : Int)) == 0) = false := beq_eq_false_iff_ne.2 ha
        by_cases hbad : 256 * (c0 : Int) + (c1 : Int) > 504 ∨ 256 * (c2 : Int) + (c3 : Int) > 504 - (256 * (c0 : Int) + (c1 : Int)) ∨ ((504 - tot : Nat) : Int) - (256 * (c2 : Int) + (c3 : Int)) < 0
        · have hr : readL p = none := by
            rw [HRL.out, coll_none p (k := j + 1) (by have := HJ.out; omega) (by rw [HS1.out, if_neg ha, if_pos hbad])]
            rfl
          have HR := Aside0.mk hr
          clear hr ha
          have hw3 : (504 < 256 * (c0 : Int) + (c1 : Int)) ∨ (256 * (c0 : Int) + (c1 : Int) ≤ 504 ∧ 504 - (256 * (c0 : Int) + (c1 : Int)) < 256 * (c2 : Int) + (c3 : Int)) ∨ (256 * (c0 : Int) + (c1 : Int) ≤ 504 ∧ 256 * (c2 : Int) + (c3 : Int) ≤ 504 - (256 * (c0 : Int) + (c1 : Int)) ∧ 504 < (tot : Int) + (256 * (c2 : Int) + (c3 : Int))) := by omega
          clear hbad
          rcases hw3 with hq | ⟨hq1, hq2⟩ | ⟨hq1, hq2, hq3⟩
          all_goals
            go_wp2
            go_quiet (fail)
            go_wp2
            go_quiet (fail)
            go_wp2
            go_ret2
            exact ref_no HR.out (by repeat (first | (with_reducible first | exact HB.out | apply below_alloc | apply pw_below_drewN | apply below_drew1) | exact HB.out))
        · have hq1 : 256 * (c0 : Int) + (c1 : Int) ≤ 504 := by omega
          have hq2 : 256 * (c2 : Int) + (c3 : Int) ≤ 504 - (256 * (c0 : Int) + (c1 : Int)) := by omega
          have hq3 : (tot : Int) + (256 * (c2 : Int) + (c3 : Int)) ≤ 504 := by omega
          obtain ⟨bs, hbs⟩ : ∃ bs, bs = (p.drop (256 * c0 + c1)).take (256 * c2 + c3) := ⟨_, rfl⟩
          have hs2 : coll p (flds p (j + 1)) = some (s ++ [some bs], ((504 - (tot + (256 * c2 + c3)) : Nat) : Int)) := by
            rw [HS1.out, if_neg ha, if_neg hbad, hbs, show (256 * (c0 : Int) + (c1 : Int)).toNat = 256 * c0 + c1 from by omega, show (256 * (c2 : Int) + (c3 : Int)).toNat = 256 * c2 + c3 from by omega]
            congr 2
            omega
          have HS2 := Aside0.mk hs2
          clear hs2 ha hbad
          have hD0 := cut_from (Kd.C_below HP.out HB.out) (256 * c0 + c1) (by omega) hc (by omega)
          have hD1 := cut_to hD0 (256 * c2 + c3) (by omega)
          rw [← hbs] at hD1
          have hsl2 := cutA_mid ad 512 c (256 * (c0 : Int) + (c1 : Int)) (256 * (c0 : Int) + (c1 : Int) + (256 * (c2 : Int) + (c3 : Int))) (256 * c0 + c1) (256 * c0 + c1 + (256 * c2 + c3)) (by omega) (by omega) (by omega) (by omega) (by omega)
          rw [show 256 * c0 + c1 + (256 * c2 + c3) - (256 * c0 + c1) = 256 * c2 + c3 from by omega] at hsl2
          have hbl := hD1.1
          rw [← hbl] at hD1 hsl2
          obtain ⟨a5, ha5⟩ : ∃ a, a = ad.add (256 * c0 + c1) := ⟨_, rfl⟩
          obtain ⟨cd, hcd⟩ : ∃ a, a = c - (256 * c0 + c1) := ⟨_, rfl⟩
          rw [← ha5] at hD1 hsl2
          rw [← hcd] at hsl2
          have HD1 := Aside0.mk hD1
          have HBL : Aside0 (bs.length ≤ 504) := ⟨by omega⟩
          clear ha5 hcd hD0 hD1 hbl hbs
          have hnew : ∀ W', Below wr.heap.size wr W' → Kd.C (Kd.int .u8) W' (some a5) bs.length bs := fun W' hb_ => Kd.C_below HD1.out hb_
          have HNEW := Aside0.mk hnew
          have HB0 : Aside0 (Below wr.heap.size wr wr) := ⟨Below.refl _ _⟩
          clear hnew
          go_wp2
          go_quiet (fail)
          go_wp2
          go_quiet (fail)
          go_wp2_with (first | ((with_reducible refine gate_dst (N := 84) rfl ?_); refine Kd.R_lit (Kd.int .u8) _ 5 ?hg (N := 84) ?hd (xs := ([] : List Int)) (inner := []) (ok := fun _ => True) (okp := fun _ => True) ?hr ?hp (fun _ hk => hk) trivial (Below.refl _ _) (Nat.le_refl _) (by simp) ?_; (case hd => rfl); (case hg => rfl); (case hr => first | (go_simp; done) | (go_simp; rfl)); (case hp => exact (Reps.none _ _)); intro v116 w46 ho47 hb hg_ hnew_; clear hg_ hnew_; have n0_ := Aside0.mk (Kd.S_elder' (by (with_reducible repeat (first | apply Kd.S_alloc | apply Kd.S_drewN | apply Kd.S_drew)); exact HO_5.out) (Kd.R_base ho47) hb); have n1_ := Aside0.mk (Kd.R_lower ho47 (below_size (by repeat (first | (with_reducible first | exact HB.out | apply below_alloc | apply pw_below_drewN | apply below_drew1) | exact HB.out)))); have n2_ := Aside0.mk (below_step (by repeat (first | (with_reducible first | exact HB.out | apply below_alloc | apply pw_below_drewN | apply below_drew1) | exact HB.out)) hb); have n3_ := Aside0.mk (below_step (by repeat (first | (with_reducible first | exact HB0.out | apply below_alloc | apply pw_below_drewN | apply below_drew1) | exact HB0.out)) hb); clear HO_5; clear HB; clear HB0; have HO_5 := n0_; have HO117 := n1_; have HB := n2_; have HB0 := n3_; clear n0_ n1_ n2_ n3_; clear hb ho47) | ((with_reducible refine gate_builtin (b := .append) (xs := #[.tmp 84, .tmp 90]) rfl ?_); at_builtin; refine Kd.R_append_rows (Kd.int .u8) (w0 := w) w.heap.size rfl (.tmp 84) (.tmp 90) 22 5 (.int .u8 0) 1 rfl Try.underlying22 info5 rfl (by decide) (by omega) v116 [] bs _ _ _ (fun _ => True) (fun _ => False) rfl rfl ?aO ?aR (fun _ _ h => h) (fun _ h => h.elim) ?aF ?aB ?aS ?aL ?_; (case aR => exact HNEW.out _ (by repeat (first | (with_reducible first | exact HB0.out | apply below_alloc | apply pw_below_drewN | apply below_drew1) | exact HB0.out))); (case aB => exact (by repeat (first | (with_reducible first | exact HB.out | apply below_alloc | apply pw_below_drewN | apply below_drew1) | exact HB.out))); (case aF => exact (fun _ _ => trivial)); (case aO => exact (by (with_reducible repeat (first | apply Kd.R_alloc | apply Kd.R_drewN | apply Kd.R_drew)); exact HO117.out)); (case aS => exact (below_size (by repeat (first | (with_reducible first | exact HB.out | apply below_alloc | apply pw_below_drewN | apply below_drew1) | exact HB.out)))); (case aL => rw [List.length_nil]; have := HBL.out; omega); intro v120 w49 ho hb hg hat; rw [List.nil_append] at ho; have n0_ := Aside0.mk (Kd.S_after (ok := (fun _ => True)) (by (with_reducible repeat (first | apply Kd.S_alloc | apply Kd.S_drewN | apply Kd.S_drew)); exact HO_5.out) hg hat); have n1_ := Aside0.mk (hb); have n2_ := Aside0.mk (ho); clear HO_5; clear HB; clear HO117; have HO_5 := n0_; have HB := n1_; have HO121 := n2_; clear n0_ n1_ n2_; clear ho hb hg hat; obtain ⟨Ao50, co50, eo50⟩ := Kd.R_slice HO121.out; subst eo50) | ((with_reducible refine gate_builtin (b := .append) (xs := #[.tmp 83, .tmp 93]) rfl ?_); at_builtin; refine Kd.S_append k59 (w0 := w) w.heap.size rfl (.tmp 83) (.tmp 93) 55 59 (.agg #[(.slice none 0 0), (.bool false)]) 32 rfl Try.underlying55 info59 rfl (by decide) (by omega) u5 (ofS s) (⟨bs, true⟩ : S59) [.slice Ao50 bs.length co50, .bool true] (fun _ => True) (fun k_ => some k_ = (.slice Ao50 bs.length co50 : Value).ownBlock) rfl rfl ?aP (fun k_ hk_ => ((Kd.R_mono (ok' := fun k_ => ((fun _ => True)) k_ ∧ some k_ ≠ (u5 : Value).ownBlock) (Kd.R_apart' (HO121.out) (Kd.S_typed HO_5.out) (by decide)) (fun k_ hk => ⟨trivial, hk.2⟩))).1 k_ hk_.symm) ?aF ?aO ?aB ?aS ?aL ?_; (case aP => exact k59_mkM _ _ _ (⟨bs, true⟩ : S59) (Kd.R_mono (Kd.R_tight rfl (Kd.R_mono (ok' := fun k_ => ((fun _ => True)) k_ ∧ some k_ ≠ (u5 : Value).ownBlock) (Kd.R_apart' (HO121.out) (Kd.S_typed HO_5.out) (by decide)) (fun k_ hk => ⟨trivial, hk.2⟩))) (fun _ h_ => h_))); (case aB => exact (by repeat (first | (with_reducible first | exact HB.out | apply below_alloc | apply pw_below_drewN | apply below_drew1) | exact HB.out))); (case aF => exact (fun _ _ => trivial)); (case aO => exact (by (with_reducible repeat (first | apply Kd.S_alloc | apply Kd.S_drewN | apply Kd.S_drew)); exact Kd.S_mono HO_5.out (fun k_ hk => ⟨trivial, fun e_ => hk.2 e_⟩))); (case aS => exact (below_size (by repeat (first | (with_reducible first | exact HB.out | apply below_alloc | apply pw_below_drewN | apply below_drew1) | exact HB.out)))); (case aL => have := HL.out; omega); intro v123 w51 ho hb hg hat; have n0_ := Aside0.mk (hb); have n1_ := Aside0.mk (S_pushed (x := some bs) rfl ho); clear HB; clear HO_5; clear HO121; have HB := n0_; have HO124 := n1_; clear n0_ n1_; clear ho hb hg hat))
          go_roundg k1
          case measure => omega
          case rel => exact ⟨s ++ [some bs], tot + (256 * c2 + c3), j + 1, (by go_num), (by go_num), ⟨by have := HJ.out; omega⟩, HS2, ⟨by omega⟩, ⟨by (with_reducible repeat (first | apply Kd.S_alloc | apply Kd.S_drewN | apply Kd.S_drew)); exact HO124.out⟩, ⟨by repeat (first | (with_reducible first | exact HB.out | apply below_alloc | apply pw_below_drewN | apply below_drew1) | exact HB.out)⟩⟩

end Go.Proofs.Ytbffeibcndbmgaa.Pg

/-! ## RefAny -/
set_option linter.unusedVariables false
set_option linter.unusedSimpArgs false
namespace Go.Proofs.Ytbffeibcndbmgaa.Pg
open Go.RowKit Go.Proofs.YtbffeibcndbmgaaW.PrintWords Go.Proofs.YtbffeibcndbmgaaW.PrintLast Go.Proofs.YtbffeibcndbmgaaW.PrintMore Go.Proofs.Ytbffeibcndbmgaa.GRef

theorem refread_any (w : World) (A : Option Addr) (n c : Nat) (p : List Int) (hp : Kd.C (Kd.int .u8) w A n p) (hc : n ≤ c) (hby : Bytes p) :
    Calls Try.prog 27 #[.slice A n c] w fun e w' => ∃ v, e = .returned (.tuple #[v, .bool (readL p).isSome]) ∧ Kd.S k59 59 w' w.heap.size (fun _ => True) v (ofS ((readL p).getD [])) ∧ Below w.heap.size w w' := by
  by_cases hn : n = 512
  · subst hn
    have hl := Kd.C_len hp
    obtain ⟨b0, e0, f0⟩ := hby.nat (i := 0) (by omega)
    obtain ⟨b1, e1, f1⟩ := hby.nat (i := 1) (by omega)
    obtain ⟨ad, q, y0⟩ := Kd.at_int hp 0 (by omega) (by omega)
    subst q
    obtain ⟨ad', q, y1⟩ := Kd.at_int hp 1 (by omega) (by omega)
    cases q
    have r0 : rd p 0 = (b0 : Int) := e0
    have r1 : rd p 1 = (b1 : Int) := e1
    rw [r0, show ((0 : Int)).toNat = 0 from rfl, Addr.add_zero'] at y0
    rw [r1] at y1
    simp only [show (1 : Int).toNat = 1 from rfl, Nat.reduceEqDiff, Go.Addr.add, ↓reduceIte] at y1
    have hnum : num2 p = ((256 * b0 + b1 : Nat) : Int) := by unfold num2; rw [r0, r1]; omega
    by_cases hbad : 504 < 2 + 4 * (256 * (b0 : Int) + (b1 : Int))
    · exact refread_bad w ad c p b0 b1 f0 f1 y0 y1 hbad (by unfold readL; rw [if_pos (.inr (by rw [hnum]; omega))])
    · refine refread_main w ad c p hp hc hby b0 b1 f0 f1 y0 y1 (by omega) ?_
      unfold readL
      rw [if_neg (by rw [hnum]; omega), hnum, Int.toNat_natCast]
  · exact refread_short w A n c p hp hn

end Go.Proofs.Ytbffeibcndbmgaa.Pg

/-! ## GRefy -/
namespace Go.Proofs.Ytbffeibcndbmgaa.GRef
open Go.RowKit Go.Proofs.YtbffeibcndbmgaaW.PrintWords Go.Proofs.YtbffeibcndbmgaaW.PrintLast Go.Proofs.YtbffeibcndbmgaaW.PrintMore
attribute [local go_sem] max2_int min2_int max_two min_two max_three min_three max_four min_four   -- for this text's walks alone
set_option linter.unusedVariables false
set_option linter.unusedSimpArgs false

/-! ### longstopref12_read: function 27 -/
def longstopref12_read.f (l0 : List Int) : Option ((List (S59)) × Bool) := if Pg.bytesB l0 = true then some (Pg.ofS ((Pg.readL l0).getD []), (Pg.readL l0).isSome) else none
theorem longstopref12_read.calls (A0 : Option Addr) (c0 : Nat) (l0 : List Int) (r1 : List (S59)) (r2 : Bool) (w : World) (hr0 : Kd.C (Kd.int .u8) w A0 l0.length l0) (hc0 : l0.length ≤ c0) (h : longstopref12_read.f l0 = some (r1, r2)) :
    Calls Try.prog 27 #[.slice A0 l0.length c0] w fun e w' => ∃ v0_ : Value, e = .returned (.tuple #[v0_, .bool r2]) ∧ Kd.S k59 59 w' w.heap.size (fun _ => True) v0_ r1 ∧ Below w.heap.size w w' := by
  unfold longstopref12_read.f at h
  split at h
  · rename_i hb
    simp only [Option.some.injEq, Prod.mk.injEq] at h
    obtain ⟨rfl, rfl⟩ := h
    exact Pg.refread_any w A0 _ c0 l0 hr0 hc0 (Pg.bytesB_iff.1 hb)
  · cases h

/-! ### longstopref12_Get: function 8 -/
def longstopref12_Get.f (l0 : List Int) (a1 : Int) : Option (List Int × Bool) := (longstopref12_read.f l0).bind fun bt101 => (if a1 < 0 then (some (([] : List Int), false)) else (if a1 ≥ (bt101.1.length : Int) then (some (([] : List Int), false)) else (if 0 ≤ a1 then (if a1 < (bt101.1.length : Int) then (if ((rd_T59 bt101.1 a1).f1 = true) then (some ((rd_T59 bt101.1 a1).f0, true)) else (some (([] : List Int), false))) else (none)) else (none))))
set_option maxHeartbeats 8000000 in
set_option maxRecDepth 100000 in
theorem longstopref12_Get.calls (A0 : Option Addr) (c0 : Nat) (l0 : List Int) (a1 : Int) (r1 : List Int) (r2 : Bool) (w : World) (hr0 : Kd.C (Kd.int .u8) w A0 l0.length l0) (hc0 : l0.length ≤ c0) (h : longstopref12_Get.f l0 a1 = some (r1, r2)) :
    Calls Try.prog 8 #[.slice A0 l0.length c0, .int .i64 a1] w fun e w' => ∃ v0_ : Value, e = .returned (.tuple #[v0_, .bool r2]) ∧ Kd.R (Kd.int .u8) 5 w' w.heap.size (fun _ => True) v0_ r1 ∧ Below w.heap.size w w' := by
  have HR0 := Aside0.mk hr0
  have HC0 := Aside0.mk hc0
  clear hr0 hc0
  have HB := Aside0.mk (Below.refl w.heap.size w)
  have H : ((longstopref12_read.f l0).bind fun bt101 => (if a1 < 0 then (some (([] : List Int), false)) else (if a1 ≥ (bt101.1.length : Int) then (some (([] : List Int), false)) else (if 0 ≤ a1 then (if a1 < (bt101.1.length : Int) then (if ((rd_T59 bt101.1 a1).f1 = true) then (some ((rd_T59 bt101.1 a1).f0, true)) else (some (([] : List Int), false))) else (none)) else (none))))) = some (r1, r2) := h
  clear h
  replace H := Option.bind_eq_some_iff.mp H
  obtain ⟨⟨t101, t102⟩, A30, H⟩ := H
  replace H : (if a1 < 0 then (some (([] : List Int), false)) else (if a1 ≥ (t101.length : Int) then (some (([] : List Int), false)) else (if 0 ≤ a1 then (if a1 < (t101.length : Int) then (if ((rd_T59 t101 a1).f1 = true) then (some ((rd_T59 t101 a1).f0, true)) else (some (([] : List Int), false))) else (none)) else (none)))) = some (r1, r2) := H
  have A3 := Aside0.mk A30
  clear A30
  by_cases c4 : a1 < 0
  · rw [if_pos c4] at H
    have c4b0 : decide (a1 < 0) = true := decide_eq_true c4
    clear c4
    simp only [Option.some.injEq, Prod.mk.injEq] at H
    obtain ⟨rfl, rfl⟩ := H
    go_enter Try.func8, Try.ntmps8
    go_wp2_with (first | ((with_reducible refine gate_callee (f := 27) rfl ?_); refine goesL_ (some 10) rfl rfl Try.func27 (by kernel_rfl) rfl #[.slice A0 l0.length c0] rfl (by (try simp only [List.map_toArray, List.map_cons, List.map_nil]); first | done | rfl | (simp only [List.length_drop, List.length_take]; rfl)) ?_; (with_reducible refine (longstopref12_read.calls _ _ l0 t101 t102 _ ?side1 ?side2 A3.out).mono ?_); (case side1 => repeat (first | exact HR0.out | (with_reducible refine Kd.C_alloc ?_ _) | (with_reducible refine Kd.C_drewN ?_ _) | (with_reducible refine Kd.C_drew ?_))); (case side2 => exact HC0.out); rintro e w5 ⟨v103, rfl, ho0, hb⟩; refine ⟨_, rfl, ?_⟩; have n0_ := Aside0.mk (Kd.S_lower ho0 (below_size (by repeat (first | (with_reducible first | exact HB.out | apply below_alloc | apply pw_below_drewN | apply below_drew1) | exact HB.out)))); have n1_ := Aside0.mk (below_step (by repeat (first | (with_reducible first | exact HB.out | apply below_alloc | apply pw_below_drewN | apply below_drew1) | exact HB.out)) hb); clear HB; have HO104 := n0_; have HB := n1_; clear n0_ n1_; (try clear hb); (try clear hb2); (try clear hk); (try clear hi); (try clear ho0)))
    go_ret2
    exact ⟨_, by first | rfl | (simp [errW_none, errW_some] <;> rfl) | (simp [*, errW_none, errW_some] <;> rfl), by first | exact Kd.R_nil _ _ _ _ _ | exact Kd.N_nil _ _ _ _ _ | exact Kd.V_nil _ _ _ _ _ | exact Kd.Q_nil _ _ _ _ _ | exact Kd.S_nil _ _ _ _ _, by repeat (first | (with_reducible first | exact HB.out | apply below_alloc | apply pw_below_drewN | apply below_drew1) | exact HB.out)⟩
  · rw [if_neg c4] at H
    have c4b0 : decide (a1 < 0) = false := decide_eq_false c4
    clear c4
    by_cases c6 : a1 ≥ (t101.length : Int)
    · rw [if_pos c6] at H
      have c6b0 : decide ((t101.length : Int) ≤ a1) = true := decide_eq_true c6
      clear c6
      simp only [Option.some.injEq, Prod.mk.injEq] at H
      obtain ⟨rfl, rfl⟩ := H
      go_enter Try.func8, Try.ntmps8
      go_wp2_with (first | ((with_reducible refine gate_callee (f := 27) rfl ?_); refine goesL_ (some 10) rfl rfl Try.func27 (by kernel_rfl) rfl #[.slice A0 l0.length c0] rfl (by (try simp only [List.map_toArray, List.map_cons, List.map_nil]); first | done | rfl | (simp only [List.length_drop, List.length_take]; rfl)) ?_; (with_reducible refine (longstopref12_read.calls _ _ l0 t101 t102 _ ?side1 ?side2 A3.out).mono ?_); (case side1 => repeat (first | exact HR0.out | (with_reducible refine Kd.C_alloc ?_ _) | (with_reducible refine Kd.C_drewN ?_ _) | (with_reducible refine Kd.C_drew ?_))); (case side2 => exact HC0.out); rintro e w7 ⟨v103, rfl, ho0, hb⟩; refine ⟨_, rfl, ?_⟩; have n0_ := Aside0.mk (Kd.S_lower ho0 (below_size (by repeat (first | (with_reducible first | exact HB.out | apply below_alloc | apply pw_below_drewN | apply below_drew1) | exact HB.out)))); have n1_ := Aside0.mk (below_step (by repeat (first | (with_reducible first | exact HB.out | apply below_alloc | apply pw_below_drewN | apply below_drew1) | exact HB.out)) hb); clear HB; have HO104 := n0_; have HB := n1_; clear n0_ n1_; (try clear hb); (try clear hb2); (try clear hk); (try clear hi); (try clear ho0); obtain ⟨Ao8, co8, eo8⟩ := Kd.S_slice HO104.out; subst eo8))
      go_ret2
      exact ⟨_, by first | rfl | (simp [errW_none, errW_some] <;> rfl) | (simp [*, errW_none, errW_some] <;> rfl), by first | exact Kd.R_nil _ _ _ _ _ | exact Kd.N_nil _ _ _ _ _ | exact Kd.V_nil _ _ _ _ _ | exact Kd.Q_nil _ _ _ _ _ | exact Kd.S_nil _ _ _ _ _, by repeat (first | (with_reducible first | exact HB.out | apply below_alloc | apply pw_below_drewN | apply below_drew1) | exact HB.out)⟩
    · rw [if_neg c6] at H
      have c6b0 : decide ((t101.length : Int) ≤ a1) = false := decide_eq_false c6
      clear c6
      by_cases c9 : 0 ≤ a1
      · rw [if_pos c9] at H
        have c9b0 : decide (0 ≤ a1) = true := decide_eq_true c9
        clear c9
        by_cases c10 : a1 < (t101.length : Int)
        · rw [if_pos c10] at H
          have c10b0 : decide (a1 < (t101.length : Int)) = true := decide_eq_true c10
          clear c10
          obtain ⟨bq11, hbq11⟩ : ∃ b_ : Bool, b_ = ((rd_T59 t101 a1).f1) := ⟨_, rfl⟩
          replace H : (if (bq11 = true) then (some ((rd_T59 t101 a1).f0, true)) else (some (([] : List Int), false))) = some (r1, r2) := by rw [← hbq11] at H; exact H
          have Nbq11 := Aside0.mk hbq11
          clear hbq11
          by_cases c12 : (bq11 = true)
          · subst c12
            have H1 : (some ((rd_T59 t101 a1).f0, true)) = some (r1, r2) := by rw [if_pos rfl] at H; exact H
            clear H
            have H := H1
            clear H1
            simp only [Option.some.injEq, Prod.mk.injEq] at H
            obtain ⟨rfl, rfl⟩ := H
            go_enter Try.func8, Try.ntmps8
            go_wp2_with (first | ((with_reducible refine gate_callee (f := 27) rfl ?_); refine goesL_ (some 10) rfl rfl Try.func27 (by kernel_rfl) rfl #[.slice A0 l0.length c0] rfl (by (try simp only [List.map_toArray, List.map_cons, List.map_nil]); first | done | rfl | (simp only [List.length_drop, List.length_take]; rfl)) ?_; (with_reducible refine (longstopref12_read.calls _ _ l0 t101 t102 _ ?side1 ?side2 A3.out).mono ?_); (case side1 => repeat (first | exact HR0.out | (with_reducible refine Kd.C_alloc ?_ _) | (with_reducible refine Kd.C_drewN ?_ _) | (with_reducible refine Kd.C_drew ?_))); (case side2 => exact HC0.out); rintro e w13 ⟨v103, rfl, ho0, hb⟩; refine ⟨_, rfl, ?_⟩; have n0_ := Aside0.mk (Kd.S_lower ho0 (below_size (by repeat (first | (with_reducible first | exact HB.out | apply below_alloc | apply pw_below_drewN | apply below_drew1) | exact HB.out)))); have n1_ := Aside0.mk (below_step (by repeat (first | (with_reducible first | exact HB.out | apply below_alloc | apply pw_below_drewN | apply below_drew1) | exact HB.out)) hb); clear HB; have HO104 := n0_; have HB := n1_; clear n0_ n1_; (try clear hb); (try clear hb2); (try clear hk); (try clear hi); (try clear ho0); obtain ⟨Ao14, co14, eo14⟩ := Kd.S_slice HO104.out; subst eo14; have p105 : 0 ≤ (a1 : Int) := of_decide_eq_true (by first | (with_reducible assumption) | assumption); have q105 : a1 < (t101.length : Int) := of_decide_eq_true (by first | (with_reducible assumption) | assumption); obtain ⟨ad105, A105_0, c105_0, e105, hx105_0, hx105_1, hl105_0, hi105_0⟩ := at_T59 (Kd.S_reads' HO104.out).2.2 a1 p105 q105; (try rw [← Nbq11.out] at hx105_1); cases e105; obtain ⟨ce105, hce105, hMe105, hcc105⟩ := Kd.S_get HO104.out z59 a1 p105 (by first | exact q105 | exact of_decide_eq_true (by first | (with_reducible assumption) | assumption) | (have e_ := (Kd.S_reads' HO104.out).1; omega)); obtain ⟨ve105_0, rfl, ge105_0⟩ := k59_openM hMe105; have hv105_0 := hcc105 0 _ rfl; rw [Nat.add_zero] at hv105_0; replace hv105_0 := Option.some.inj (hv105_0.symm.trans hx105_0); rw [hv105_0] at ge105_0; have HL105_0 := Aside0.mk (show Kd.R (Kd.int .u8) 5 _ _ _ _ ((rd_T59 t101 a1).f0) from ge105_0); clear hv105_0 ge105_0; clear hcc105 hce105; have HR105_0 := Aside0.mk hi105_0; have HC105_0 := Aside0.mk hl105_0; clear hi105_0 hl105_0; replace p105 := eq_true p105; replace q105 := eq_true q105; have p106 : 0 ≤ (a1 : Int) := of_decide_eq_true (by first | (with_reducible assumption) | assumption); have q106 : a1 < (t101.length : Int) := of_decide_eq_true (by first | (with_reducible assumption) | assumption); obtain ⟨ad106, A106_0, c106_0, e106, hx106_0, hx106_1, hl106_0, hi106_0⟩ := at_T59 (Kd.S_reads' HO104.out).2.2 a1 p106 q106; (try rw [← Nbq11.out] at hx106_1); obtain rfl : ad105 = ad106 := (by injection e106); obtain ⟨ce106, hce106, hMe106, hcc106⟩ := Kd.S_get HO104.out z59 a1 p106 (by first | exact q106 | exact of_decide_eq_true (by first | (with_reducible assumption) | assumption) | (have e_ := (Kd.S_reads' HO104.out).1; omega)); obtain ⟨ve106_0, rfl, ge106_0⟩ := k59_openM hMe106; have hv106_0 := hcc106 0 _ rfl; rw [Nat.add_zero] at hv106_0; replace hv106_0 := Option.some.inj (hv106_0.symm.trans hx106_0); rw [hv106_0] at ge106_0; have HL106_0 := Aside0.mk (show Kd.R (Kd.int .u8) 5 _ _ _ _ ((rd_T59 t101 a1).f0) from ge106_0); clear hv106_0 ge106_0; clear hcc106 hce106; have HR106_0 := Aside0.mk hi106_0; have HC106_0 := Aside0.mk hl106_0; clear hi106_0 hl106_0; replace p106 := eq_true p106; replace q106 := eq_true q106; have ea_ := Option.some.inj (hx105_0.symm.trans hx106_0); injection ea_ with ea_ en_ ec_; subst ea_; subst ec_; clear en_))
            go_ret2
            exact ⟨_, by first | rfl | (simp [errW_none, errW_some] <;> rfl) | (simp [*, errW_none, errW_some] <;> rfl), by (with_reducible repeat (first | apply Kd.R_alloc | apply Kd.R_drewN | apply Kd.R_drew)); exact Kd.R_mono HL106_0.out (fun _ hk => trivial), by repeat (first | (with_reducible first | exact HB.out | apply below_alloc | apply pw_below_drewN | apply below_drew1) | exact HB.out)⟩
          · replace c12 := Bool.eq_false_iff.mpr c12
            subst c12
            have H1 : (some (([] : List Int), false)) = some (r1, r2) := by rw [if_neg (show ¬ (false = true) by decide)] at H; exact H
            clear H
            have H := H1
            clear H1
            simp only [Option.some.injEq, Prod.mk.injEq] at H
            obtain ⟨rfl, rfl⟩ := H
            go_enter Try.func8, Try.ntmps8
            go_wp2_with (first | ((with_reducible refine gate_callee (f := 27) rfl ?_); refine goesL_ (some 10) rfl rfl Try.func27 (by kernel_rfl) rfl #[.slice A0 l0.length c0] rfl (by (try simp only [List.map_toArray, List.map_cons, List.map_nil]); first | done | rfl | (simp only [List.length_drop, List.length_take]; rfl)) ?_; (with_reducible refine (longstopref12_read.calls _ _ l0 t101 t102 _ ?side1 ?side2 A3.out).mono ?_); (case side1 => repeat (first | exact HR0.out | (with_reducible refine Kd.C_alloc ?_ _) | (with_reducible refine Kd.C_drewN ?_ _) | (with_reducible refine Kd.C_drew ?_))); (case side2 => exact HC0.out); rintro e w15 ⟨v103, rfl, ho0, hb⟩; refine ⟨_, rfl, ?_⟩; have n0_ := Aside0.mk (Kd.S_lower ho0 (below_size (by repeat (first | (with_reducible first | exact HB.out | apply below_alloc | apply pw_below_drewN | apply below_drew1) | exact HB.out)))); have n1_ := Aside0.mk (below_step (by repeat (first | (with_reducible first | exact HB.out | apply below_alloc | apply pw_below_drewN | apply below_drew1) | exact HB.out)) hb); clear HB; have HO104 := n0_; have HB := n1_; clear n0_ n1_; (try clear hb); (try clear hb2); (try clear hk); (try clear hi); (try clear ho0); obtain ⟨Ao16, co16, eo16⟩ := Kd.S_slice HO104.out; subst eo16; have p105 : 0 ≤ (a1 : Int) := of_decide_eq_true (by first | (with_reducible assumption) | assumption); have q105 : a1 < (t101.length : Int) := of_decide_eq_true (by first | (with_reducible assumption) | assumption); obtain ⟨ad105, A105_0, c105_0, e105, hx105_0, hx105_1, hl105_0, hi105_0⟩ := at_T59 (Kd.S_reads' HO104.out).2.2 a1 p105 q105; (try rw [← Nbq11.out] at hx105_1); cases e105; obtain ⟨ce105, hce105, hMe105, hcc105⟩ := Kd.S_get HO104.out z59 a1 p105 (by first | exact q105 | exact of_decide_eq_true (by first | (with_reducible assumption) | assumption) | (have e_ := (Kd.S_reads' HO104.out).1; omega)); obtain ⟨ve105_0, rfl, ge105_0⟩ := k59_openM hMe105; have hv105_0 := hcc105 0 _ rfl; rw [Nat.add_zero] at hv105_0; replace hv105_0 := Option.some.inj (hv105_0.symm.trans hx105_0); rw [hv105_0] at ge105_0; have HL105_0 := Aside0.mk (show Kd.R (Kd.int .u8) 5 _ _ _ _ ((rd_T59 t101 a1).f0) from ge105_0); clear hv105_0 ge105_0; clear hcc105 hce105; have HR105_0 := Aside0.mk hi105_0; have HC105_0 := Aside0.mk hl105_0; clear hi105_0 hl105_0; replace p105 := eq_true p105; replace q105 := eq_true q105))
            go_ret2
            exact ⟨_, by first | rfl | (simp [errW_none, errW_some] <;> rfl) | (simp [*, errW_none, errW_some] <;> rfl), by first | exact Kd.R_nil _ _ _ _ _ | exact Kd.N_nil _ _ _ _ _ | exact Kd.V_nil _ _ _ _ _ | exact Kd.Q_nil _ _ _ _ _ | exact Kd.S_nil _ _ _ _ _, by repeat (first | (with_reducible first | exact HB.out | apply below_alloc | apply pw_below_drewN | apply below_drew1) | exact HB.out)⟩
        · rw [if_neg c10] at H
          exact absurd H (by simp)
      · rw [if_neg c9] at H
        exact absurd H (by simp)

/-! ### longstopref12_Right: function 10 -/
def longstopref12_Right.f (l0 : List Int) : Option (Bool) := (longstopref12_read.f l0).bind fun bt107 => (some bt107.2)
set_option maxHeartbeats 8000000 in
set_option maxRecDepth 100000 in
theorem longstopref12_Right.calls (A0 : Option Addr) (c0 : Nat) (l0 : List Int) (r : Bool) (w : World) (hr0 : Kd.C (Kd.int .u8) w A0 l0.length l0) (hc0 : l0.length ≤ c0) (h : longstopref12_Right.f l0 = some r) :
    Calls Try.prog 10 #[.slice A0 l0.length c0] w fun e w' => e = .returned (.bool r) ∧ Below w.heap.size w w' := by
  have HR0 := Aside0.mk hr0
  have HC0 := Aside0.mk hc0
  clear hr0 hc0
  have HB := Aside0.mk (Below.refl w.heap.size w)
  have H : ((longstopref12_read.f l0).bind fun bt107 => (some bt107.2)) = some r := h
  clear h
  replace H := Option.bind_eq_some_iff.mp H
  obtain ⟨⟨t107, t108⟩, A20, H⟩ := H
  replace H : (some t108) = some r := H
  have A2 := Aside0.mk A20
  clear A20
  obtain rfl := Option.some.inj H
  go_enter Try.func10, Try.ntmps10
  go_wp2_with (first | ((with_reducible refine gate_callee (f := 27) rfl ?_); refine goesL_ (some 7) rfl rfl Try.func27 (by kernel_rfl) rfl #[.slice A0 l0.length c0] rfl (by (try simp only [List.map_toArray, List.map_cons, List.map_nil]); first | done | rfl | (simp only [List.length_drop, List.length_take]; rfl)) ?_; (with_reducible refine (longstopref12_read.calls _ _ l0 t107 t108 _ ?side1 ?side2 A2.out).mono ?_); (case side1 => repeat (first | exact HR0.out | (with_reducible refine Kd.C_alloc ?_ _) | (with_reducible refine Kd.C_drewN ?_ _) | (with_reducible refine Kd.C_drew ?_))); (case side2 => exact HC0.out); rintro e w3 ⟨v109, rfl, ho0, hb⟩; refine ⟨_, rfl, ?_⟩; have n0_ := Aside0.mk (Kd.S_lower ho0 (below_size (by repeat (first | (with_reducible first | exact HB.out | apply below_alloc | apply pw_below_drewN | apply below_drew1) | exact HB.out)))); have n1_ := Aside0.mk (below_step (by repeat (first | (with_reducible first | exact HB.out | apply below_alloc | apply pw_below_drewN | apply below_drew1) | exact HB.out)) hb); clear HB; have HO110 := n0_; have HB := n1_; clear n0_ n1_; (try clear hb); (try clear hb2); (try clear hk); (try clear hi); (try clear ho0)))
  go_ret
  exact ⟨by first | rfl | (simp [errW_none, errW_some] <;> rfl) | (simp [*, errW_none, errW_some] <;> rfl), by repeat (first | (with_reducible first | exact HB.out | apply below_alloc | apply pw_below_drewN | apply below_drew1) | exact HB.out)⟩

/-! ### longstopref12_Slots: function 12 -/
def longstopref12_Slots.f (l0 : List Int) : Option (Int) := (longstopref12_read.f l0).bind fun bt111 => (some (bt111.1.length : Int))
set_option maxHeartbeats 8000000 in
set_option maxRecDepth 100000 in
theorem longstopref12_Slots.calls (A0 : Option Addr) (c0 : Nat) (l0 : List Int) (r : Int) (w : World) (hr0 : Kd.C (Kd.int .u8) w A0 l0.length l0) (hc0 : l0.length ≤ c0) (h : longstopref12_Slots.f l0 = some r) :
    Calls Try.prog 12 #[.slice A0 l0.length c0] w fun e w' => e = .returned (.int .i64 r) ∧ Below w.heap.size w w' := by
  have HR0 := Aside0.mk hr0
  have HC0 := Aside0.mk hc0
  clear hr0 hc0
  have HB := Aside0.mk (Below.refl w.heap.size w)
  have H : ((longstopref12_read.f l0).bind fun bt111 => (some (bt111.1.length : Int))) = some r := h
  clear h
  replace H := Option.bind_eq_some_iff.mp H
  obtain ⟨⟨t111, t112⟩, A20, H⟩ := H
  replace H : (some (t111.length : Int)) = some r := H
  have A2 := Aside0.mk A20
  clear A20
  obtain rfl := Option.some.inj H
  go_enter Try.func12, Try.ntmps12
  go_wp2_with (first | ((with_reducible refine gate_callee (f := 27) rfl ?_); refine goesL_ (some 7) rfl rfl Try.func27 (by kernel_rfl) rfl #[.slice A0 l0.length c0] rfl (by (try simp only [List.map_toArray, List.map_cons, List.map_nil]); first | done | rfl | (simp only [List.length_drop, List.length_take]; rfl)) ?_; (with_reducible refine (longstopref12_read.calls _ _ l0 t111 t112 _ ?side1 ?side2 A2.out).mono ?_); (case side1 => repeat (first | exact HR0.out | (with_reducible refine Kd.C_alloc ?_ _) | (with_reducible refine Kd.C_drewN ?_ _) | (with_reducible refine Kd.C_drew ?_))); (case side2 => exact HC0.out); rintro e w3 ⟨v113, rfl, ho0, hb⟩; refine ⟨_, rfl, ?_⟩; have n0_ := Aside0.mk (Kd.S_lower ho0 (below_size (by repeat (first | (with_reducible first | exact HB.out | apply below_alloc | apply pw_below_drewN | apply below_drew1) | exact HB.out)))); have n1_ := Aside0.mk (below_step (by repeat (first | (with_reducible first | exact HB.out | apply below_alloc | apply pw_below_drewN | apply below_drew1) | exact HB.out)) hb); clear HB; have HO114 := n0_; have HB := n1_; clear n0_ n1_; (try clear hb); (try clear hb2); (try clear hk); (try clear hi); (try clear ho0); obtain ⟨Ao4, co4, eo4⟩ := Kd.S_slice HO114.out; subst eo4))
  go_ret
  exact ⟨by first | rfl | (simp [errW_none, errW_some] <;> rfl) | (simp [*, errW_none, errW_some] <;> rfl), by repeat (first | (with_reducible first | exact HB.out | apply below_alloc | apply pw_below_drewN | apply below_drew1) | exact HB.out)⟩

/-! ### longstopref12_Room: function 14 -/
def longstopref12_Room.f (k : Nat) (l0 : List Int) : Option (Int) := (longstopref12_read.f l0).bind fun bt116 => (if bt116.2 = true then ((longstopref12_room.f k bt116.1).bind fun t120 => (some t120)) else (some 0))
theorem longstopref12_Room.mono : ∀ a0 k, LeO (longstopref12_Room.f k a0) (longstopref12_Room.f (k + 1) a0) := by
  intro a0 k
  unfold longstopref12_Room.f
  repeat' first
      | (with_reducible exact longstopref12_room.mono _ _)
      | (with_reducible exact LeO.refl _)
      | (with_reducible exact LeO.none _)
      | (with_reducible refine LeO.ite ?_ ?_)
      | (with_reducible refine LeO.bind ?_ (fun _ => ?_))
      | exact longstopref12_room.mono _ _
      | exact LeO.none _
      | refine LeO.ite ?_ ?_
      | refine LeO.bind ?_ (fun _ => ?_)
set_option maxHeartbeats 8000000 in
set_option maxRecDepth 100000 in
theorem longstopref12_Room.calls (k : Nat) (A0 : Option Addr) (c0 : Nat) (l0 : List Int) (r : Int) (w : World) (hr0 : Kd.C (Kd.int .u8) w A0 l0.length l0) (hc0 : l0.length ≤ c0) (h : longstopref12_Room.f k l0 = some r) :
    Calls Try.prog 14 #[.slice A0 l0.length c0] w fun e w' => e = .returned (.int .i64 r) ∧ Below w.heap.size w w' := by
  have HR0 := Aside0.mk hr0
  have HC0 := Aside0.mk hc0
  clear hr0 hc0
  have HB := Aside0.mk (Below.refl w.heap.size w)
  have H : ((longstopref12_read.f l0).bind fun bt116 => (if bt116.2 = true then ((longstopref12_room.f k bt116.1).bind fun t120 => (some t120)) else (some 0))) = some r := h
  clear h
  replace H := Option.bind_eq_some_iff.mp H
  obtain ⟨⟨t116, t117⟩, A20, H⟩ := H
  replace H : (if t117 = true then ((longstopref12_room.f k t116).bind fun t120 => (some t120)) else (some 0)) = some r := H
  have A2 := Aside0.mk A20
  clear A20
  by_cases c3 : t117 = true
  · subst c3
    have H1 : ((longstopref12_room.f k t116).bind fun t120 => (some t120)) = some r := by rw [if_pos rfl] at H; exact H
    clear H
    have H := H1
    clear H1
    replace H := Option.bind_eq_some_iff.mp H
    obtain ⟨t120, A40, H⟩ := H
    replace H : (some t120) = some r := H
    have A4 := Aside0.mk A40
    clear A40
    obtain rfl := Option.some.inj H
    go_enter Try.func14, Try.ntmps14
    go_wp2_with (first | ((with_reducible refine gate_callee (f := 27) rfl ?_); refine goesL_ (some 7) rfl rfl Try.func27 (by kernel_rfl) rfl #[.slice A0 l0.length c0] rfl (by (try simp only [List.map_toArray, List.map_cons, List.map_nil]); first | done | rfl | (simp only [List.length_drop, List.length_take]; rfl)) ?_; (with_reducible refine (longstopref12_read.calls _ _ l0 t116 true _ ?side1 ?side2 A2.out).mono ?_); (case side1 => repeat (first | exact HR0.out | (with_reducible refine Kd.C_alloc ?_ _) | (with_reducible refine Kd.C_drewN ?_ _) | (with_reducible refine Kd.C_drew ?_))); (case side2 => exact HC0.out); rintro e w5 ⟨v118, rfl, ho0, hb⟩; refine ⟨_, rfl, ?_⟩; have n0_ := Aside0.mk (Kd.S_lower ho0 (below_size (by repeat (first | (with_reducible first | exact HB.out | apply below_alloc | apply pw_below_drewN | apply below_drew1) | exact HB.out)))); have n1_ := Aside0.mk (below_step (by repeat (first | (with_reducible first | exact HB.out | apply below_alloc | apply pw_below_drewN | apply below_drew1) | exact HB.out)) hb); clear HB; have HO119 := n0_; have HB := n1_; clear n0_ n1_; (try clear hb); (try clear hb2); (try clear hk); (try clear hi); (try clear ho0); obtain ⟨Ao6, co6, eo6⟩ := Kd.S_slice HO119.out; subst eo6) | ((with_reducible refine gate_callee (f := 29) rfl ?_); refine goesL_ (some 13) rfl rfl Try.func29 (by kernel_rfl) rfl #[.slice Ao6 t116.length co6] rfl (by (try simp only [List.map_toArray, List.map_cons, List.map_nil]); first | done | rfl | (simp only [List.length_drop, List.length_take]; rfl)) ?_; (with_reducible refine (longstopref12_room.calls k _ _ t116 t120 _ ?side1 ?side2 A4.out).mono ?_); (case side1 => repeat (first | exact (Kd.S_reads' HO119.out).2.2 | (with_reducible refine Kd.C_alloc ?_ _) | (with_reducible refine Kd.C_drewN ?_ _) | (with_reducible refine Kd.C_drew ?_))); (case side2 => exact (Kd.S_reads' HO119.out).2.1); rintro e w' ⟨rfl, ⟨nd, rfl⟩⟩; refine ⟨_, rfl, ?_⟩))
    go_ret
    exact ⟨by first | rfl | (simp [errW_none, errW_some] <;> rfl) | (simp [*, errW_none, errW_some] <;> rfl), by repeat (first | (with_reducible first | exact HB.out | apply below_alloc | apply pw_below_drewN | apply below_drew1) | exact HB.out)⟩
  · replace c3 := Bool.eq_false_iff.mpr c3
    subst c3
    have H1 : (some 0) = some r := by rw [if_neg (show ¬ (false = true) by decide)] at H; exact H
    clear H
    have H := H1
    clear H1
    obtain rfl := Option.some.inj H
    go_enter Try.func14, Try.ntmps14
    go_wp2_with (first | ((with_reducible refine gate_callee (f := 27) rfl ?_); refine goesL_ (some 7) rfl rfl Try.func27 (by kernel_rfl) rfl #[.slice A0 l0.length c0] rfl (by (try simp only [List.map_toArray, List.map_cons, List.map_nil]); first | done | rfl | (simp only [List.length_drop, List.length_take]; rfl)) ?_; (with_reducible refine (longstopref12_read.calls _ _ l0 t116 false _ ?side1 ?side2 A2.out).mono ?_); (case side1 => repeat (first | exact HR0.out | (with_reducible refine Kd.C_alloc ?_ _) | (with_reducible refine Kd.C_drewN ?_ _) | (with_reducible refine Kd.C_drew ?_))); (case side2 => exact HC0.out); rintro e w7 ⟨v118, rfl, ho0, hb⟩; refine ⟨_, rfl, ?_⟩; have n0_ := Aside0.mk (Kd.S_lower ho0 (below_size (by repeat (first | (with_reducible first | exact HB.out | apply below_alloc | apply pw_below_drewN | apply below_drew1) | exact HB.out)))); have n1_ := Aside0.mk (below_step (by repeat (first | (with_reducible first | exact HB.out | apply below_alloc | apply pw_below_drewN | apply below_drew1) | exact HB.out)) hb); clear HB; have HO119 := n0_; have HB := n1_; clear n0_ n1_; (try clear hb); (try clear hb2); (try clear hk); (try clear hi); (try clear ho0)))
    go_ret
    exact ⟨by first | rfl | (simp [errW_none, errW_some] <;> rfl) | (simp [*, errW_none, errW_some] <;> rfl), by repeat (first | (with_reducible first | exact HB.out | apply below_alloc | apply pw_below_drewN | apply below_drew1) | exact HB.out)⟩

/-! ### longstopref12_New: function 16 -/
def longstopref12_New.f  : Option (List Int) := (longstopref12_write.f ([] : List (S59))).bind fun t121 => (some t121)
set_option maxHeartbeats 8000000 in
set_option maxRecDepth 100000 in
theorem longstopref12_New.calls  (r : List Int) (w : World) (h : longstopref12_New.f  = some r) :
    Calls Try.prog 16 #[] w fun e w' => ∃ v0_ : Value, e = .returned (v0_) ∧ Kd.R (Kd.int .u8) 5 w' w.heap.size (fun _ => True) v0_ r ∧ Below w.heap.size w w' := by
  have HB := Aside0.mk (Below.refl w.heap.size w)
  have H : ((longstopref12_write.f ([] : List (S59))).bind fun t121 => (some t121)) = some r := h
  clear h
  replace H := Option.bind_eq_some_iff.mp H
  obtain ⟨t121, A10, H⟩ := H
  replace H : (some t121) = some r := H
  have A1 := Aside0.mk A10
  clear A10
  obtain rfl := Option.some.inj H
  go_enter Try.func16, Try.ntmps16
  go_wp2_with (first | ((with_reducible refine gate_callee (f := 31) rfl ?_); refine goesL_ (some 1) rfl rfl Try.func31 (by kernel_rfl) rfl #[.slice none 0 0] rfl (by (try simp only [List.map_toArray, List.map_cons, List.map_nil]); first | done | rfl | (simp only [List.length_drop, List.length_take]; rfl)) ?_; (refine (longstopref12_write.calls _ _ ([] : List (S59)) t121 _ ?side1 ?side2 A1.out).mono ?_); (case side1 => exact Kd.C_nil _ _); (case side2 => exact Nat.le_refl _); rintro e w2 ⟨v122, rfl, ho0, hb⟩; refine ⟨_, rfl, ?_⟩; have n0_ := Aside0.mk (Kd.R_lower ho0 (below_size (by repeat (first | (with_reducible first | exact HB.out | apply below_alloc | apply pw_below_drewN | apply below_drew1) | exact HB.out)))); have n1_ := Aside0.mk (below_step (by repeat (first | (with_reducible first | exact HB.out | apply below_alloc | apply pw_below_drewN | apply below_drew1) | exact HB.out)) hb); clear HB; have HO123 := n0_; have HB := n1_; clear n0_ n1_; (try clear hb); (try clear hb2); (try clear hk); (try clear hi); (try clear ho0)))
  go_ret
  exact ⟨_, by first | rfl | (simp [errW_none, errW_some] <;> rfl) | (simp [*, errW_none, errW_some] <;> rfl), by (with_reducible repeat (first | apply Kd.R_alloc | apply Kd.R_drewN | apply Kd.R_drew)); exact HO123.out, by repeat (first | (with_reducible first | exact HB.out | apply below_alloc | apply pw_below_drewN | apply below_drew1) | exact HB.out)⟩

/-! ### longstopref12_Insert: function 20 -/
mutual
def longstopref12_Insert.j1 : Nat → List Int → List (S59) → Int → Option (List Int × Int × Int)
  | 0, _, _, _ => none
  | k + 1, x1, x7, x9 => if x9 = (x7.length : Int) then (if x7.length < 4398046511104 then (longstopref12_Insert.j2 k x1 (x7 ++ [(⟨([] : List Int), false⟩ : S59)]) x9) else (none)) else (longstopref12_Insert.j2 k x1 x7 x9)
def longstopref12_Insert.j2 : Nat → List Int → List (S59) → Int → Option (List Int × Int × Int)
  | 0, _, _, _ => none
  | k + 1, x1, x7, x9 => (longstopref12_room.f k x7).bind fun t159 => (if (x1.length : Int) > t159 then (some (([] : List Int), 0, 7)) else (if 0 ≤ x9 then (if x9 < (x7.length : Int) then ((longstopref12_write.f (x7.set (x9 : Int).toNat (⟨x1, true⟩ : S59))).bind fun t161 => (some (t161, x9, 0))) else (none)) else (none)))
def longstopref12_Insert.l0 : Nat → List Int → List (S59) → Int → Option (List Int × Int × Int)
  | 0, _, _, _ => none
  | k + 1, x1, x7, x9 => if x9 < (x7.length : Int) then (if 0 ≤ x9 then (if (rd_T59 x7 x9).f1 = true then (longstopref12_Insert.l0 k x1 x7 (wrap64 (x9 + 1))) else (longstopref12_Insert.j1 k x1 x7 x9)) else (none)) else (longstopref12_Insert.j1 k x1 x7 x9)
end
def longstopref12_Insert.f (k : Nat) (l0 : List Int) (l1 : List Int) : Option (List Int × Int × Int) := (longstopref12_read.f l0).bind fun bt151 => (if bt151.2 = true then (longstopref12_Insert.l0 k l1 bt151.1 0) else (some (([] : List Int), 0, 21)))
theorem longstopref12_Insert.mono_l : ∀ k, (∀ y0 y1 y2, LeO (longstopref12_Insert.j1 k y0 y1 y2) (longstopref12_Insert.j1 (k + 1) y0 y1 y2)) ∧ (∀ y0 y1 y2, LeO (longstopref12_Insert.j2 k y0 y1 y2) (longstopref12_Insert.j2 (k + 1) y0 y1 y2)) ∧ (∀ y0 y1 y2, LeO (longstopref12_Insert.l0 k y0 y1 y2) (longstopref12_Insert.l0 (k + 1) y0 y1 y2))
  | 0 => ⟨fun _ _ _ r h => by simp [longstopref12_Insert.j1] at h, fun _ _ _ r h => by simp [longstopref12_Insert.j2] at h, fun _ _ _ r h => by simp [longstopref12_Insert.l0] at h⟩
  | k + 1 => by
    obtain ⟨ih0, ih1, ih2⟩ := longstopref12_Insert.mono_l k
    refine ⟨?_, ?_, ?_⟩
    · intro y0 y1 y2
      unfold longstopref12_Insert.j1
      repeat' first
      | (with_reducible exact ih0 _ _ _)
      | (with_reducible exact ih1 _ _ _)
      | (with_reducible exact ih2 _ _ _)
      | (with_reducible exact longstopref12_room.mono _ _)
      | (with_reducible exact LeO.refl _)
      | (with_reducible exact LeO.none _)
      | (with_reducible refine LeO.ite ?_ ?_)
      | (with_reducible refine LeO.bind ?_ (fun _ => ?_))
      | exact ih0 _ _ _
      | exact ih1 _ _ _
      | exact ih2 _ _ _
      | exact longstopref12_room.mono _ _
      | exact LeO.none _
      | refine LeO.ite ?_ ?_
      | refine LeO.bind ?_ (fun _ => ?_)
    · intro y0 y1 y2
      unfold longstopref12_Insert.j2
      repeat' first
      | (with_reducible exact ih0 _ _ _)
      | (with_reducible exact ih1 _ _ _)
      | (with_reducible exact ih2 _ _ _)
      | (with_reducible exact longstopref12_room.mono _ _)
      | (with_reducible exact LeO.refl _)
      | (with_reducible exact LeO.none _)
      | (with_reducible refine LeO.ite ?_ ?_)
      | (with_reducible refine LeO.bind ?_ (fun _ => ?_))
      | exact ih0 _ _ _
      | exact ih1 _ _ _
      | exact ih2 _ _ _
      | exact longstopref12_room.mono _ _
      | exact LeO.none _
      | refine LeO.ite ?_ ?_
      | refine LeO.bind ?_ (fun _ => ?_)
    · intro y0 y1 y2
      unfold longstopref12_Insert.l0
      repeat' first
      | (with_reducible exact ih0 _ _ _)
      | (with_reducible exact ih1 _ _ _)
      | (with_reducible exact ih2 _ _ _)
      | (with_reducible exact longstopref12_room.mono _ _)
      | (with_reducible exact LeO.refl _)
      | (with_reducible exact LeO.none _)
      | (with_reducible refine LeO.ite ?_ ?_)
      | (with_reducible refine LeO.bind ?_ (fun _ => ?_))
      | exact ih0 _ _ _
      | exact ih1 _ _ _
      | exact ih2 _ _ _
      | exact longstopref12_room.mono _ _
      | exact LeO.none _
      | refine LeO.ite ?_ ?_
      | refine LeO.bind ?_ (fun _ => ?_)
theorem longstopref12_Insert.mono : ∀ a0 a1 k, LeO (longstopref12_Insert.f k a0 a1) (longstopref12_Insert.f (k + 1) a0 a1) := by
  intro a0 a1 k
  obtain ⟨ih0, ih1, ih2⟩ := longstopref12_Insert.mono_l k
  unfold longstopref12_Insert.f
  repeat' first
      | (with_reducible exact ih0 _ _ _)
      | (with_reducible exact ih1 _ _ _)
      | (with_reducible exact ih2 _ _ _)
      | (with_reducible exact longstopref12_room.mono _ _)
      | (with_reducible exact LeO.refl _)
      | (with_reducible exact LeO.none _)
      | (with_reducible refine LeO.ite ?_ ?_)
      | (with_reducible refine LeO.bind ?_ (fun _ => ?_))
      | exact ih0 _ _ _
      | exact ih1 _ _ _
      | exact ih2 _ _ _
      | exact longstopref12_room.mono _ _
      | exact LeO.none _
      | refine LeO.ite ?_ ?_
      | refine LeO.bind ?_ (fun _ => ?_)
set_option maxHeartbeats 8000000 in
set_option maxRecDepth 100000 in
theorem longstopref12_Insert.calls (k : Nat) (A0 : Option Addr) (c0 : Nat) (l0 : List Int) (P1_ : Nat → Prop) (A1 : Option Addr) (c1 : Nat) (l1 : List Int) (r1 : List Int) (r2 : Int) (r3 : Int) (w : World) (hr0 : Kd.C (Kd.int .u8) w A0 l0.length l0) (hc0 : l0.length ≤ c0) (hs1 : Kd.V (Kd.int .u8) 5 w w.heap.size (fun k_ => P1_ k_) (.slice A1 l1.length c1) l1) (h : longstopref12_Insert.f k l0 l1 = some (r1, r2, r3)) :
    Calls Try.prog 20 #[.slice A0 l0.length c0, .slice A1 l1.length c1] w fun e w' => ∃ v0_ : Value, e = .returned (.tuple #[v0_, .int .i64 r2, .int .i64 r3]) ∧ Kd.R (Kd.int .u8) 5 w' w.heap.size (fun k_ => (w.heap.size ≤ k_)) v0_ r1 ∧ Below w.heap.size w w' := by
  have hu59 := Try.underlying59
  have HR0 := Aside0.mk hr0
  have HC0 := Aside0.mk hc0
  clear hr0 hc0
  have HO1 := Aside0.mk (show Kd.V (Kd.int .u8) 5 w w.heap.size (fun k_ => (P1_ k_ ∨ w.heap.size ≤ k_)) (.slice A1 l1.length c1) l1 from Kd.V_mono hs1 (fun k_ hk => .inl hk))
  have HB := Aside0.mk (Below.refl w.heap.size w)
  have H : ((longstopref12_read.f l0).bind fun bt151 => (if bt151.2 = true then (longstopref12_Insert.l0 k l1 bt151.1 0) else (some (([] : List Int), 0, 21)))) = some (r1, r2, r3) := h
  clear h
  replace H := Option.bind_eq_some_iff.mp H
  obtain ⟨⟨t151, t152⟩, A30, H⟩ := H
  replace H : (if t152 = true then (longstopref12_Insert.l0 k l1 t151 0) else (some (([] : List Int), 0, 21))) = some (r1, r2, r3) := H
  have A3 := Aside0.mk A30
  clear A30
  by_cases c4 : t152 = true
  · subst c4
    have H1 : (longstopref12_Insert.l0 k l1 t151 0) = some (r1, r2, r3) := by rw [if_pos rfl] at H; exact H
    clear H
    have H := H1
    clear H1
    have HC5 := Aside0.mk H
    clear H
    go_enter Try.func20, Try.ntmps20
    go_upto_block 0 with (first | ((with_reducible refine gate_callee (f := 27) rfl ?_); refine goesL_ (some 12) rfl rfl Try.func27 (by kernel_rfl) rfl #[.slice A0 l0.length c0] rfl (by (try simp only [List.map_toArray, List.map_cons, List.map_nil]); first | done | rfl | (simp only [List.length_drop, List.length_take]; rfl)) ?_; (with_reducible refine (longstopref12_read.calls _ _ l0 t151 true _ ?side1 ?side2 A3.out).mono ?_); (case side1 => repeat (first | exact HR0.out | (with_reducible refine Kd.C_alloc ?_ _) | (with_reducible refine Kd.C_drewN ?_ _) | (with_reducible refine Kd.C_drew ?_))); (case side2 => exact HC0.out); rintro e w6 ⟨v153, rfl, ho0, hb⟩; refine ⟨_, rfl, ?_⟩; have n0_ := Aside0.mk (Kd.V_elder' (by (with_reducible repeat (first | apply Kd.V_alloc | apply Kd.V_drewN | apply Kd.V_drew)); exact HO1.out) (Kd.S_base ho0) hb); have n1_ := Aside0.mk (Kd.N_lower (Kd.N_mono (ok' := fun k_ => (P1_ k_ ∨ w.heap.size ≤ k_)) (Kd.S_N (Kd.S_bound ho0)) (fun k_ hk_ => (.inr (Nat.le_trans (below_size (by repeat (first | (with_reducible first | exact HB.out | apply below_alloc | apply pw_below_drewN | apply below_drew1) | exact HB.out))) hk_.2.1)))) (below_size (by repeat (first | (with_reducible first | exact HB.out | apply below_alloc | apply pw_below_drewN | apply below_drew1) | exact HB.out)))); have n2_ := Aside0.mk (below_step (by repeat (first | (with_reducible first | exact HB.out | apply below_alloc | apply pw_below_drewN | apply below_drew1) | exact HB.out)) hb); clear HO1; clear HB; have HO1 := n0_; have HO154 := n1_; have HB := n2_; clear n0_ n1_ n2_; (try clear hb); (try clear hb2); (try clear hk); (try clear hi); (try clear ho0)))
    (try simp only [Act.put, List.setIfInBounds_toArray, List.set_cons_zero, List.set_cons_succ])
    go_cut [9] (fun v9 wc => ∃ (kq : Nat) (x9_4 : Int), v9 = .int .i64 x9_4 ∧ Aside0 (longstopref12_Insert.j1 kq l1 t151 x9_4 = some (r1, r2, r3)) ∧ Aside0 (kq ≤ k) ∧ Aside0 (Kd.V (Kd.int .u8) 5 wc w.heap.size (fun k_ => (P1_ k_ ∨ w.heap.size ≤ k_) ∧ some k_ ≠ (v153 : Value).ownBlock) (.slice A1 l1.length c1) l1) ∧ Aside0 (Kd.N k59 59 wc w.heap.size (fun k_ => (P1_ k_ ∨ w.heap.size ≤ k_)) v153 t151) ∧ Aside0 (Below w.heap.size w wc))
    case first =>
      have H := HC5.out
      clear HC5
      have H' := Aside0.mk H
      clear H
      go_wp2
      go_loopg [9] k (fun kq v9 w' => ∃ (x9_1 : Int), v9 = .int .i64 x9_1 ∧ Aside0 (longstopref12_Insert.l0 kq l1 t151 x9_1 = some (r1, r2, r3)) ∧ Aside0 (kq ≤ k) ∧ Aside0 (Kd.V (Kd.int .u8) 5 w' w.heap.size (fun k_ => (P1_ k_ ∨ w.heap.size ≤ k_) ∧ some k_ ≠ (v153 : Value).ownBlock) (.slice A1 l1.length c1) l1) ∧ Aside0 (Kd.N k59 59 w' w.heap.size (fun k_ => (P1_ k_ ∨ w.heap.size ≤ k_)) v153 t151) ∧ Aside0 (Below w.heap.size w w'))
      case atStart => exact ⟨(0), (by first | rfl | (simp; done) | (simp [*]; done)), H', ⟨Nat.le_refl _⟩, ⟨by (with_reducible repeat (first | apply Kd.V_alloc | apply Kd.V_drewN | apply Kd.V_drew)); exact HO1.out⟩, ⟨by (with_reducible repeat (first | apply Kd.N_alloc | apply Kd.N_drewN | apply Kd.N_drew)); exact HO154.out⟩, ⟨by repeat (first | (with_reducible first | exact HB.out | apply below_alloc | apply pw_below_drewN | apply below_drew1) | exact HB.out)⟩⟩
      case round =>
        clear H'
        try clear c1
        try clear c2
        try clear p2
        try clear c4
        obtain ⟨x9_1, rfl, HA, HK1, HO_1, HO_7, HB⟩ := hrel
        cases gk with
        | zero => exact absurd HA.out (by simp [longstopref12_Insert.l0])
        | succ k1 =>
          have H := HA.out
          clear HA
          simp only [longstopref12_Insert.l0] at H
          by_cases c7 : x9_1 < (t151.length : Int)
          · rw [if_pos c7] at H
            have c7b0 : decide (x9_1 < (t151.length : Int)) = true := decide_eq_true c7
            clear c7
            (first | rw [c7b0] | (simp only [i64_w, i32_w]; rw [c7b0]) | skip)
            by_cases c8 : 0 ≤ x9_1
            · rw [if_pos c8] at H
              have c8b0 : decide (0 ≤ x9_1) = true := decide_eq_true c8
              clear c8
              obtain ⟨bq9, hbq9⟩ : ∃ b_ : Bool, b_ = ((rd_T59 t151 x9_1).f1) := ⟨_, rfl⟩
              replace H : (if bq9 = true then (longstopref12_Insert.l0 k1 l1 t151 (wrap64 (x9_1 + 1))) else (longstopref12_Insert.j1 k1 l1 t151 x9_1)) = some (r1, r2, r3) := by rw [← hbq9] at H; exact H
              have Nbq9 := Aside0.mk hbq9
              clear hbq9
              by_cases c10 : bq9 = true
              · subst c10
                have H1 : (longstopref12_Insert.l0 k1 l1 t151 (wrap64 (x9_1 + 1))) = some (r1, r2, r3) := by rw [if_pos rfl] at H; exact H
                clear H
                have H := H1
                clear H1
                have H' := Aside0.mk H
                clear H
                obtain ⟨Ao11, co11, eo11⟩ := Kd.N_slice HO_7.out
                subst eo11
                have p155 : 0 ≤ (x9_1 : Int) := of_decide_eq_true (by first | (with_reducible assumption) | assumption)
                have q155 : x9_1 < (t151.length : Int) := of_decide_eq_true (by first | (with_reducible assumption) | assumption)
                obtain ⟨ad155, A155_0, c155_0, e155, hx155_0, hx155_1, hl155_0, hi155_0⟩ := at_T59 (Kd.N_reads' HO_7.out).2.2 x9_1 p155 q155
                (try rw [← Nbq9.out] at hx155_1)
                cases e155
                obtain ⟨ce155, hce155, hMe155, hcc155⟩ := Kd.N_get HO_7.out z59 x9_1 p155 (by first | exact q155 | exact of_decide_eq_true (by first | (with_reducible assumption) | assumption) | (have e_ := (Kd.N_reads' HO_7.out).1; omega))
                obtain ⟨ua155_0, uc155_0, rfl, ul155_0, ge155_0⟩ := k59_openF hMe155
                have hv155_0 := hcc155 0 _ rfl
                rw [Nat.add_zero] at hv155_0
                replace hv155_0 := Option.some.inj (hv155_0.symm.trans hx155_0)
                injection hv155_0 with hva_ hvn_ hvc_
                rw [hva_] at ge155_0
                rw [hvc_] at ul155_0
                have HL155_0 := Aside0.mk (show Kd.V (Kd.int .u8) 5 _ w.heap.size _ _ ((rd_T59 t151 x9_1).f0) from Kd.V_mk ul155_0 ge155_0)
                clear hva_ hvn_ hvc_ ge155_0 ul155_0
                clear hcc155 hce155
                have HR155_0 := Aside0.mk hi155_0
                have HC155_0 := Aside0.mk hl155_0
                clear hi155_0 hl155_0
                replace p155 := eq_true p155
                replace q155 := eq_true q155
                go_wp2
                go_roundg k1
                case measure => have := HK1.out; omega
                case rel => exact ⟨(wrap64 (x9_1 + 1)), (by first | rfl | (simp; done) | (simp [*]; done)), H', ⟨by have := HK1.out; omega⟩, ⟨by (with_reducible repeat (first | apply Kd.V_alloc | apply Kd.V_drewN | apply Kd.V_drew)); exact HO_1.out⟩, ⟨by (with_reducible repeat (first | apply Kd.N_alloc | apply Kd.N_drewN | apply Kd.N_drew)); exact HO_7.out⟩, ⟨by repeat (first | (with_reducible first | exact HB.out | apply below_alloc | apply pw_below_drewN | apply below_drew1) | exact HB.out)⟩⟩
              · replace c10 := Bool.eq_false_iff.mpr c10
                subst c10
                have H1 : (longstopref12_Insert.j1 k1 l1 t151 x9_1) = some (r1, r2, r3) := by rw [if_neg (show ¬ (false = true) by decide)] at H; exact H
                clear H
                have H := H1
                clear H1
                have H' := Aside0.mk H
                clear H
                obtain ⟨Ao12, co12, eo12⟩ := Kd.N_slice HO_7.out
                subst eo12
                have p155 : 0 ≤ (x9_1 : Int) := of_decide_eq_true (by first | (with_reducible assumption) | assumption)
                have q155 : x9_1 < (t151.length : Int) := of_decide_eq_true (by first | (with_reducible assumption) | assumption)
                obtain ⟨ad155, A155_0, c155_0, e155, hx155_0, hx155_1, hl155_0, hi155_0⟩ := at_T59 (Kd.N_reads' HO_7.out).2.2 x9_1 p155 q155
                (try rw [← Nbq9.out] at hx155_1)
                cases e155
                obtain ⟨ce155, hce155, hMe155, hcc155⟩ := Kd.N_get HO_7.out z59 x9_1 p155 (by first | exact q155 | exact of_decide_eq_true (by first | (with_reducible assumption) | assumption) | (have e_ := (Kd.N_reads' HO_7.out).1; omega))
                obtain ⟨ua155_0, uc155_0, rfl, ul155_0, ge155_0⟩ := k59_openF hMe155
                have hv155_0 := hcc155 0 _ rfl
                rw [Nat.add_zero] at hv155_0
                replace hv155_0 := Option.some.inj (hv155_0.symm.trans hx155_0)
                injection hv155_0 with hva_ hvn_ hvc_
                rw [hva_] at ge155_0
                rw [hvc_] at ul155_0
                have HL155_0 := Aside0.mk (show Kd.V (Kd.int .u8) 5 _ w.heap.size _ _ ((rd_T59 t151 x9_1).f0) from Kd.V_mk ul155_0 ge155_0)
                clear hva_ hvn_ hvc_ ge155_0 ul155_0
                clear hcc155 hce155
                have HR155_0 := Aside0.mk hi155_0
                have HC155_0 := Aside0.mk hl155_0
                clear hi155_0 hl155_0
                replace p155 := eq_true p155
                replace q155 := eq_true q155
                go_wp2
                go_meet
                case rel => exact ⟨_, (x9_1), (by first | rfl | (simp; done) | (simp [*]; done)), H', ⟨by have := HK1.out; first | omega | exact Nat.le_refl _⟩, ⟨by (with_reducible repeat (first | apply Kd.V_alloc | apply Kd.V_drewN | apply Kd.V_drew)); exact HO_1.out⟩, ⟨by (with_reducible repeat (first | apply Kd.N_alloc | apply Kd.N_drewN | apply Kd.N_drew)); exact HO_7.out⟩, ⟨by repeat (first | (with_reducible first | exact HB.out | apply below_alloc | apply pw_below_drewN | apply below_drew1) | exact HB.out)⟩⟩
            · rw [if_neg c8] at H
              exact absurd H (by simp)
          · rw [if_neg c7] at H
            have c7b0 : decide (x9_1 < (t151.length : Int)) = false := decide_eq_false c7
            clear c7
            (first | rw [c7b0] | (simp only [i64_w, i32_w]; rw [c7b0]) | skip)
            have H' := Aside0.mk H
            clear H
            obtain ⟨Ao13, co13, eo13⟩ := Kd.N_slice HO_7.out
            subst eo13
            go_wp2
            go_meet
            case rel => exact ⟨_, (x9_1), (by first | rfl | (simp; done) | (simp [*]; done)), H', ⟨by have := HK1.out; first | omega | exact Nat.le_refl _⟩, ⟨by (with_reducible repeat (first | apply Kd.V_alloc | apply Kd.V_drewN | apply Kd.V_drew)); exact HO_1.out⟩, ⟨by (with_reducible repeat (first | apply Kd.N_alloc | apply Kd.N_drewN | apply Kd.N_drew)); exact HO_7.out⟩, ⟨by repeat (first | (with_reducible first | exact HB.out | apply below_alloc | apply pw_below_drewN | apply below_drew1) | exact HB.out)⟩⟩
    case rest =>
      clear HC5
      try clear c1
      try clear p1
      try clear q1
      try clear hx1
      try clear c2
      try clear p2
      try clear c4
      try clear p6
      try clear c7
      try clear c7b0
      try clear c8
      try clear c8b0
      try clear q9
      try clear c10
      try clear hx155_0
      try clear hx155_1
      try clear p155
      try clear p2
      try clear q155
      obtain ⟨kq, x9_4, rfl, HA, HJ4, HO_1, HO_7, HB⟩ := hcut
      cases kq with
      | zero => exact absurd HA.out (by simp [longstopref12_Insert.j1])
      | succ kj4 =>
        have H := HA.out
        clear HA
        simp only [longstopref12_Insert.j1] at H
        have HC14 := Aside0.mk H
        clear H
        obtain ⟨Ao15, co15, eo15⟩ := Kd.N_slice HO_7.out
        subst eo15
        go_upto_if 33 with (fail)
        go_cut [7] (fun v7 wc => ∃ (kq : Nat) (x7_13 : List (S59)), Aside0 (longstopref12_Insert.j2 kq l1 x7_13 x9_4 = some (r1, r2, r3)) ∧ Aside0 (kq ≤ kj4) ∧ Aside0 (Kd.V (Kd.int .u8) 5 wc w.heap.size (fun k_ => (P1_ k_ ∨ w.heap.size ≤ k_) ∧ some k_ ≠ (v7 : Value).ownBlock) (.slice A1 l1.length c1) l1) ∧ Aside0 (Kd.N k59 59 wc w.heap.size (fun k_ => (P1_ k_ ∨ w.heap.size ≤ k_)) v7 x7_13) ∧ Aside0 (Below w.heap.size w wc))
        case first =>
          have H := HC14.out
          clear HC14
          by_cases c16 : x9_4 = (t151.length : Int)
          · rw [if_pos c16] at H
            have c16b0 : (x9_4 == (t151.length : Int)) = true := beq_iff_eq.mpr c16
            have c16b1 : (x9_4 != (t151.length : Int)) = false := bne_eq_false_iff_eq.mpr c16
            clear c16
            (first | rw [c16b0] | (simp only [i64_w, i32_w]; rw [c16b0]) | skip)
            by_cases c17 : t151.length < 4398046511104
            · rw [if_pos c17] at H
              have LMc17 := Aside0.mk c17
              clear c17
              obtain ⟨y156, hy156⟩ : ∃ y_ : List (S59), y_ = (t151 ++ [(⟨([] : List Int), false⟩ : S59)]) := ⟨_, rfl⟩
              replace H : (longstopref12_Insert.j2 kj4 l1 y156 x9_4) = some (r1, r2, r3) := by first | (rw [hy156]; with_reducible exact H) | (have H2_ := (Option.bind_some _ _).symm.trans H; rw [hy156]; with_reducible exact H2_) | (have H2_ := (Option.bind_some _ _).symm.trans H; with_reducible exact H2_) | with_reducible exact H | (rw [hy156]; exact H) | exact H
              have Ny156 := Aside0.mk hy156
              clear hy156
              have H' := Aside0.mk H
              clear H
              go_wp2_with (first | ((with_reducible refine gate_builtin (b := .append) (xs := #[.tmp 34, .tmp 36]) rfl ?_); at_builtin; refine Kd.N_append k59 (w0 := w) w.heap.size rfl (.tmp 34) (.tmp 36) 55 59 (.agg #[(.slice none 0 0), (.bool false)]) 32 rfl Try.underlying55 info59 rfl (by decide) (by omega) (.slice Ao15 t151.length co15) t151 (⟨([] : List Int), false⟩ : S59) [.slice none 0 0, .bool false] (fun k_ => (P1_ k_ ∨ w.heap.size ≤ k_)) (fun k_ => ((fun k_ => (P1_ k_ ∨ w.heap.size ≤ k_))) k_ ∧ some k_ ≠ (.slice Ao15 t151.length co15 : Value).ownBlock) rfl rfl ?aP (fun _ hk => hk) ?aF ?aO ?aB ?aS ?aL ?_; (case aP => exact (k59_mkF _ _ (⟨([] : List Int), false⟩ : S59) (Nat.le_refl _) (Kd.F_nil _ _ _))); (case aB => exact (by repeat (first | (with_reducible first | exact HB.out | apply below_alloc | apply pw_below_drewN | apply below_drew1) | exact HB.out))); (case aF => exact (fun k_ hk => (.inr (Nat.le_trans (below_size (by repeat (first | (with_reducible first | exact HB.out | apply below_alloc | apply pw_below_drewN | apply below_drew1) | exact HB.out))) hk)))); (case aO => exact (by (with_reducible repeat (first | apply Kd.N_alloc | apply Kd.N_drewN | apply Kd.N_drew)); exact HO_7.out)); (case aS => exact (below_size (by repeat (first | (with_reducible first | exact HB.out | apply below_alloc | apply pw_below_drewN | apply below_drew1) | exact HB.out)))); (case aL => have := LMc17.out; omega); intro v157 w18 ho hb hg hat; rw [← Ny156.out] at ho; have n0_ := Aside0.mk (Kd.V_afterv (ok := (fun k_ => (P1_ k_ ∨ w.heap.size ≤ k_))) (by (with_reducible repeat (first | apply Kd.V_alloc | apply Kd.V_drewN | apply Kd.V_drew)); exact HO_1.out) hg hat); have n1_ := Aside0.mk (hb); have n2_ := Aside0.mk (ho); clear HO_1; clear HB; clear HO_7; have HO_1 := n0_; have HB := n1_; have HO158 := n2_; clear n0_ n1_ n2_; clear ho hb hg hat))
              go_meet
              case rel => exact ⟨_, (y156), H', ⟨by have := HJ4.out; first | omega | exact Nat.le_refl _⟩, ⟨by (with_reducible repeat (first | apply Kd.V_alloc | apply Kd.V_drewN | apply Kd.V_drew)); exact HO_1.out⟩, ⟨by (with_reducible repeat (first | apply Kd.N_alloc | apply Kd.N_drewN | apply Kd.N_drew)); exact HO158.out⟩, ⟨by repeat (first | (with_reducible first | exact HB.out | apply below_alloc | apply pw_below_drewN | apply below_drew1) | exact HB.out)⟩⟩
            · rw [if_neg c17] at H
              exact absurd H (by simp)
          · rw [if_neg c16] at H
            have c16b0 : (x9_4 == (t151.length : Int)) = false := beq_eq_false_iff_ne.mpr c16
            have c16b1 : (x9_4 != (t151.length : Int)) = true := bne_iff_ne.mpr c16
            (first | rw [c16b0] | (simp only [i64_w, i32_w]; rw [c16b0]) | skip)
            have H' := Aside0.mk H
            clear H
            go_wp2
            go_meet
            case rel => exact ⟨_, (t151), H', ⟨by have := HJ4.out; first | omega | exact Nat.le_refl _⟩, ⟨by (with_reducible repeat (first | apply Kd.V_alloc | apply Kd.V_drewN | apply Kd.V_drew)); exact HO_1.out⟩, ⟨by (with_reducible repeat (first | apply Kd.N_alloc | apply Kd.N_drewN | apply Kd.N_drew)); exact HO_7.out⟩, ⟨by repeat (first | (with_reducible first | exact HB.out | apply below_alloc | apply pw_below_drewN | apply below_drew1) | exact HB.out)⟩⟩
        case rest =>
          clear HC14
          try clear c1
          try clear p1
          try clear q1
          try clear hx1
          try clear c2
          try clear p2
          try clear c4
          try clear p6
          try clear c7
          try clear c7b0
          try clear c8
          try clear c8b0
          try clear q9
          try clear c10
          try clear c15
          try clear p15
          try clear q15
          try clear hx15
          try clear c16
          try clear c16b0
          try clear c16b1
          try clear c17
          try clear hx155_0
          try clear hx155_1
          try clear p1
          try clear p155
          try clear p2
          try clear p6
          try clear q1
          try clear q155
          try clear q9
          obtain ⟨kq, x7_13, HA, HJ13, HO_1, HO_7, HB⟩ := hcut
          cases kq with
          | zero => exact absurd HA.out (by simp [longstopref12_Insert.j2])
          | succ kj13 =>
            have H := HA.out
            clear HA
            simp only [longstopref12_Insert.j2] at H
            replace H := Option.bind_eq_some_iff.mp H
            obtain ⟨t159, A190, H⟩ := H
            replace H : (if (l1.length : Int) > t159 then (some (([] : List Int), 0, 7)) else (if 0 ≤ x9_4 then (if x9_4 < (x7_13.length : Int) then ((longstopref12_write.f (x7_13.set (x9_4 : Int).toNat (⟨l1, true⟩ : S59))).bind fun t161 => (some (t161, x9_4, 0))) else (none)) else (none))) = some (r1, r2, r3) := H
            have A19 := Aside0.mk A190
            clear A190
            by_cases c20 : (l1.length : Int) > t159
            · rw [if_pos c20] at H
              have c20b0 : decide (t159 < (l1.length : Int)) = true := decide_eq_true c20
              clear c20
              simp only [Option.some.injEq, Prod.mk.injEq] at H
              obtain ⟨rfl, rfl, rfl⟩ := H
              obtain ⟨Ao21, co21, eo21⟩ := Kd.N_slice HO_7.out
              subst eo21
              go_wp2_with (first | ((with_reducible refine gate_callee (f := 29) rfl ?_); refine goesL_ (some 41) rfl rfl Try.func29 (by kernel_rfl) rfl #[.slice Ao21 x7_13.length co21] rfl (by (try simp only [List.map_toArray, List.map_cons, List.map_nil]); first | done | rfl | (simp only [List.length_drop, List.length_take]; rfl)) ?_; (with_reducible refine (longstopref12_room.calls kj13 _ _ x7_13 t159 _ ?side1 ?side2 A19.out).mono ?_); (case side1 => repeat (first | exact (Kd.N_reads' HO_7.out).2.2 | (with_reducible refine Kd.C_alloc ?_ _) | (with_reducible refine Kd.C_drewN ?_ _) | (with_reducible refine Kd.C_drew ?_))); (case side2 => exact (Kd.N_reads' HO_7.out).2.1); rintro e w' ⟨rfl, ⟨nd, rfl⟩⟩; refine ⟨_, rfl, ?_⟩))
              go_ret3
              exact ⟨_, by first | rfl | (simp [errW_none, errW_some] <;> rfl) | (simp [*, errW_none, errW_some] <;> rfl), by first | exact Kd.R_nil _ _ _ _ _ | exact Kd.N_nil _ _ _ _ _ | exact Kd.V_nil _ _ _ _ _ | exact Kd.Q_nil _ _ _ _ _ | exact Kd.S_nil _ _ _ _ _, by repeat (first | (with_reducible first | exact HB.out | apply below_alloc | apply pw_below_drewN | apply below_drew1) | exact HB.out)⟩
            · rw [if_neg c20] at H
              have c20b0 : decide (t159 < (l1.length : Int)) = false := decide_eq_false c20
              clear c20
              by_cases c22 : 0 ≤ x9_4
              · rw [if_pos c22] at H
                have c22b0 : decide (0 ≤ x9_4) = true := decide_eq_true c22
                clear c22
                by_cases c23 : x9_4 < (x7_13.length : Int)
                · rw [if_pos c23] at H
                  have c23b0 : decide (x9_4 < (x7_13.length : Int)) = true := decide_eq_true c23
                  clear c23
                  obtain ⟨y160, hy160⟩ : ∃ y_ : List (S59), y_ = (x7_13.set (x9_4 : Int).toNat (⟨l1, true⟩ : S59)) := ⟨_, rfl⟩
                  replace H : ((longstopref12_write.f y160).bind fun t161 => (some (t161, x9_4, 0))) = some (r1, r2, r3) := by first | (rw [hy160]; with_reducible exact H) | (have H2_ := (Option.bind_some _ _).symm.trans H; rw [hy160]; with_reducible exact H2_) | (have H2_ := (Option.bind_some _ _).symm.trans H; with_reducible exact H2_) | with_reducible exact H | (rw [hy160]; exact H) | exact H
                  have Ny160 := Aside0.mk hy160
                  clear hy160
                  replace H := Option.bind_eq_some_iff.mp H
                  obtain ⟨t161, A250, H⟩ := H
                  replace H : (some (t161, x9_4, 0)) = some (r1, r2, r3) := H
                  have A25 := Aside0.mk A250
                  clear A250
                  simp only [Option.some.injEq, Prod.mk.injEq] at H
                  obtain ⟨rfl, rfl, rfl⟩ := H
                  obtain ⟨Ao26, co26, eo26⟩ := Kd.N_slice HO_7.out
                  subst eo26
                  go_wp2_with (first | ((with_reducible refine gate_callee (f := 29) rfl ?_); refine goesL_ (some 41) rfl rfl Try.func29 (by kernel_rfl) rfl #[.slice Ao26 x7_13.length co26] rfl (by (try simp only [List.map_toArray, List.map_cons, List.map_nil]); first | done | rfl | (simp only [List.length_drop, List.length_take]; rfl)) ?_; (with_reducible refine (longstopref12_room.calls kj13 _ _ x7_13 t159 _ ?side1 ?side2 A19.out).mono ?_); (case side1 => repeat (first | exact (Kd.N_reads' HO_7.out).2.2 | (with_reducible refine Kd.C_alloc ?_ _) | (with_reducible refine Kd.C_drewN ?_ _) | (with_reducible refine Kd.C_drew ?_))); (case side2 => exact (Kd.N_reads' HO_7.out).2.1); rintro e w' ⟨rfl, ⟨nd, rfl⟩⟩; refine ⟨_, rfl, ?_⟩; (try (rw [drewN_self wc]; generalize hq_ : World.drewN wc _ = wc; have n0_ : Aside0 (Kd.V (Kd.int .u8) 5 wc w.heap.size (fun k_ => (P1_ k_ ∨ w.heap.size ≤ k_) ∧ some k_ ≠ (.slice Ao26 x7_13.length co26 : Value).ownBlock) (.slice A1 l1.length c1) l1) := ⟨by rw [← hq_]; exact (by (with_reducible repeat (first | apply Kd.V_alloc | apply Kd.V_drewN | apply Kd.V_drew)); exact HO_1.out)⟩; have n1_ : Aside0 (Kd.N k59 59 wc w.heap.size (fun k_ => (P1_ k_ ∨ w.heap.size ≤ k_)) (.slice Ao26 x7_13.length co26) x7_13) := ⟨by rw [← hq_]; exact (by (with_reducible repeat (first | apply Kd.N_alloc | apply Kd.N_drewN | apply Kd.N_drew)); exact HO_7.out)⟩; have n2_ : Aside0 (Below w.heap.size w wc) := ⟨by rw [← hq_]; exact (by repeat (first | (with_reducible first | exact HB.out | apply below_alloc | apply pw_below_drewN | apply below_drew1) | exact HB.out))⟩; clear HO_1 HO_7 HB hq_; have HO_1 := n0_; have HO_7 := n1_; have HB := n2_; clear n0_ n1_ n2_)); have p24 : 0 ≤ (x9_4 : Int) := of_decide_eq_true (by first | (with_reducible assumption) | assumption); have q24 : (x9_4 : Int) < ((x7_13.length : Int) : Int) := of_decide_eq_true (by first | (with_reducible assumption) | assumption); obtain ⟨go24, co24, eo24, gb24, gl24, cl24, HG24⟩ := Kd.N_form HO_7.out (by omega); (first | cases eo24 | (injection eo24 with ea_ en_ ec_; (first | subst ea_ | (injection ea_ with ea_; subst ea_)); subst ec_; clear en_)); have GB24 := Aside0.mk gb24; have GG24 := Aside0.mk HG24; clear gb24 gl24 HG24; obtain ⟨ce24, hcl24, hM24, hcc24, hfr24⟩ := Kd.N_elem HO_7.out z59 (x9_4 : Int) p24 q24; obtain ⟨ua24_0, uc24_0, rfl, ul24_0, ge24_0⟩ := k59_openF hM24; have hx24_0 : wc.cell? ⟨go24, (x9_4 : Int).toNat * 2, none⟩ = some (.slice ua24_0 ((rd_T59 x7_13 x9_4).f0).length uc24_0) := hcc24 0 _ rfl; have hx24_1 : wc.cell? ⟨go24, (x9_4 : Int).toNat * 2 + 1, none⟩ = some (.bool ((rd_T59 x7_13 x9_4).f1)) := hcc24 1 _ rfl; have hf24_0 : wc.frozen? ⟨go24, (x9_4 : Int).toNat * 2, none⟩ = false := hfr24 0; have hf24_1 : wc.frozen? ⟨go24, (x9_4 : Int).toNat * 2 + 1, none⟩ = false := hfr24 1; clear hcl24 hcc24 hfr24 hM24; replace p24 := eq_true p24; replace q24 := eq_true q24; have HX27 := Aside0.mk (show Kd.N k59 59 wc w.heap.size (fun k_ => (P1_ k_ ∨ w.heap.size ≤ k_)) (.slice (some ⟨go24, 0, none⟩) x7_13.length co26) x7_13 from (by (with_reducible repeat (first | apply Kd.N_alloc | apply Kd.N_drewN | apply Kd.N_drew)); exact HO_7.out)); obtain ⟨ce27, hcl27, hM27, hcc27, hfr27⟩ := Kd.N_elem HX27.out z59 (x9_4 : Int) (of_decide_eq_true (by first | (with_reducible assumption) | assumption)) (by have h_ : (x9_4 : Int) < ((x7_13.length : Int) : Int) := of_decide_eq_true (by first | (with_reducible assumption) | assumption); first | exact h_ | (have e_ := (Kd.N_reads' HO_7.out).1; omega) | simpa using h_); obtain ⟨ua27_0, uc27_0, rfl, ul27_0, ge27_0⟩ := k59_openF hM27; have HP27 := Kd.N_seg HX27.out (x9_4 : Int) (of_decide_eq_true (by first | (with_reducible assumption) | assumption)) (by have h_ : (x9_4 : Int) < ((x7_13.length : Int) : Int) := of_decide_eq_true (by first | (with_reducible assumption) | assumption); first | exact h_ | (have e_ := (Kd.N_reads' HO_7.out).1; omega) | simpa using h_) (seg := [.slice A1 l1.length c1, .bool true]) (j := 0) hcl27 hcc27 (show 2 ≤ 2 from by decide) (x' := (⟨l1, true⟩ : S59)) (k59_mkF _ _ (⟨l1, true⟩ : S59) (Kd.V_reads' (Kd.V_mono (ok' := (fun k_ => ((fun k_ => (P1_ k_ ∨ w.heap.size ≤ k_))) k_ ∧ k_ ≠ go24)) (HO_1.out) (fun k_ hk => ⟨hk.1, fun e_ => (hk.2) (by rw [e_]; rfl)⟩))).2.1 (Kd.V_F (Kd.V_mono (ok' := (fun k_ => ((fun k_ => (P1_ k_ ∨ w.heap.size ≤ k_))) k_ ∧ k_ ≠ go24)) (HO_1.out) (fun k_ hk => ⟨hk.1, fun e_ => (hk.2) (by rw [e_]; rfl)⟩)))) (fun _ hk => hk); have hx27_0 := hcc27 0 _ rfl; (try simp only [show (k59).sz = 2 from rfl, Nat.mul_one, Nat.add_zero] at hx27_0); have hf27_0 := hfr27 0; (try simp only [show (k59).sz = 2 from rfl, Nat.mul_one, Nat.add_zero] at hf27_0); have hx27_1 := hcc27 1 _ rfl; (try simp only [show (k59).sz = 2 from rfl, Nat.mul_one, Nat.add_zero] at hx27_1); have hf27_1 := hfr27 1; (try simp only [show (k59).sz = 2 from rfl, Nat.mul_one, Nat.add_zero] at hf27_1); clear hcl27 hcc27 hfr27 hM27) | ((with_reducible refine gate_store (t := 59) (p := 47) rfl ?_); refine store_event (t := 59) (p := 47) (v := ?vo_w28) (w1 := ((wc.setCell ⟨go24, (x9_4 : Int).toNat * 2, none⟩ (.slice A1 l1.length c1)).setCell ⟨go24, (x9_4 : Int).toNat * 2 + 1, none⟩ (.bool true))) ?hg ?ho ?hn ?hr ?_; (case ho => rfl); (case hg => rfl); (case hn => rfl); (case hr => first | (go_simp; done) | (go_simp; rfl)); intro w28 hw; have hg : wc.grownBy w28 (some go24) := (by rw [hw]; exact HP27.2); have hp_ : Kd.N k59 59 w28 w.heap.size (fun k_ => (P1_ k_ ∨ w.heap.size ≤ k_)) (.slice (some ⟨go24, 0, none⟩) x7_13.length co26) y160 := (by rw [hw, Ny160.out]; exact HP27.1); clear HP27; have n0_ := Aside0.mk (Kd.V_afterv (v := (.slice (some ⟨go24, 0, none⟩) x7_13.length co26)) (v1 := (.slice (some ⟨go24, 0, none⟩) x7_13.length co26)) (ok := (fun k_ => (P1_ k_ ∨ w.heap.size ≤ k_))) (by (with_reducible repeat (first | apply Kd.V_alloc | apply Kd.V_drewN | apply Kd.V_drew)); exact HO_1.out) hg (.inl rfl)); have n1_ := Aside0.mk (hp_); have n2_ := Aside0.mk ((by rw [hw]; exact below_set (below_set (HB.out) GB24.out) GB24.out : Below w.heap.size w w28)); clear HO_1; clear HO_7; clear HB; have HO_1 := n0_; have HO_7 := n1_; have HB := n2_; clear n0_ n1_ n2_; clear hg hw hp_) | ((with_reducible refine gate_callee (f := 31) rfl ?_); refine goesL_ (some 49) rfl rfl Try.func31 (by kernel_rfl) rfl #[.slice (some ⟨go24, 0, none⟩) y160.length co26] rfl (by (try simp only [List.map_toArray, List.map_cons, List.map_nil]); first | done | (rw [show y160.length = x7_13.length from (Kd.N_reads' HO_7.out).1.symm] <;> rfl) | rfl | (simp only [List.length_drop, List.length_take]; rfl)) ?_; (with_reducible refine (longstopref12_write.calls _ _ y160 t161 _ ?side1 ?side2 A25.out).mono ?_); (case side1 => repeat (first | exact (Kd.N_reads' HO_7.out).2.2 | (with_reducible refine Kd.C_alloc ?_ _) | (with_reducible refine Kd.C_drewN ?_ _) | (with_reducible refine Kd.C_drew ?_))); (case side2 => rw [show y160.length = x7_13.length from (Kd.N_reads' HO_7.out).1.symm]; exact (Kd.N_reads' HO_7.out).2.1); rintro e w29 ⟨v162, rfl, ho0, hb⟩; refine ⟨_, rfl, ?_⟩; have n0_ := Aside0.mk (Kd.V_elder' (by (with_reducible repeat (first | apply Kd.V_alloc | apply Kd.V_drewN | apply Kd.V_drew)); exact HO_1.out) (Kd.R_base ho0) hb); have n1_ := Aside0.mk (Kd.N_elder' (by (with_reducible repeat (first | apply Kd.N_alloc | apply Kd.N_drewN | apply Kd.N_drew)); exact HO_7.out) (Kd.R_base ho0) hb); have n2_ := Aside0.mk (Kd.R_lower (Kd.R_newM (M := fun k_ => (w.heap.size ≤ k_)) ho0 (below_size (by repeat (first | (with_reducible first | exact HB.out | apply below_alloc | apply pw_below_drewN | apply below_drew1) | exact HB.out))) (fun k_ h_ => h_)) (below_size (by repeat (first | (with_reducible first | exact HB.out | apply below_alloc | apply pw_below_drewN | apply below_drew1) | exact HB.out)))); have n3_ := Aside0.mk (below_step (by repeat (first | (with_reducible first | exact HB.out | apply below_alloc | apply pw_below_drewN | apply below_drew1) | exact HB.out)) hb); clear HO_1; clear HO_7; clear HB; have HO_1 := n0_; have HO_7 := n1_; have HO163 := n2_; have HB := n3_; clear n0_ n1_ n2_ n3_; (try clear hb); (try clear hb2); (try clear hk); (try clear hi); (try clear ho0)))
                  go_ret3
                  exact ⟨_, by first | rfl | (simp [errW_none, errW_some] <;> rfl) | (simp [*, errW_none, errW_some] <;> rfl), by (with_reducible repeat (first | apply Kd.R_alloc | apply Kd.R_drewN | apply Kd.R_drew)); exact Kd.R_mono HO163.out (fun _ hk => hk.1), by repeat (first | (with_reducible first | exact HB.out | apply below_alloc | apply pw_below_drewN | apply below_drew1) | exact HB.out)⟩
                · rw [if_neg c23] at H
                  exact absurd H (by simp)
              · rw [if_neg c22] at H
                exact absurd H (by simp)
  · replace c4 := Bool.eq_false_iff.mpr c4
    subst c4
    have H1 : (some (([] : List Int), 0, 21)) = some (r1, r2, r3) := by rw [if_neg (show ¬ (false = true) by decide)] at H; exact H
    clear H
    have H := H1
    clear H1
    simp only [Option.some.injEq, Prod.mk.injEq] at H
    obtain ⟨rfl, rfl, rfl⟩ := H
    go_enter Try.func20, Try.ntmps20
    go_wp2_with (first | ((with_reducible refine gate_callee (f := 27) rfl ?_); refine goesL_ (some 12) rfl rfl Try.func27 (by kernel_rfl) rfl #[.slice A0 l0.length c0] rfl (by (try simp only [List.map_toArray, List.map_cons, List.map_nil]); first | done | rfl | (simp only [List.length_drop, List.length_take]; rfl)) ?_; (with_reducible refine (longstopref12_read.calls _ _ l0 t151 false _ ?side1 ?side2 A3.out).mono ?_); (case side1 => repeat (first | exact HR0.out | (with_reducible refine Kd.C_alloc ?_ _) | (with_reducible refine Kd.C_drewN ?_ _) | (with_reducible refine Kd.C_drew ?_))); (case side2 => exact HC0.out); rintro e w30 ⟨v153, rfl, ho0, hb⟩; refine ⟨_, rfl, ?_⟩; have n0_ := Aside0.mk (Kd.V_elder' (by (with_reducible repeat (first | apply Kd.V_alloc | apply Kd.V_drewN | apply Kd.V_drew)); exact HO1.out) (Kd.S_base ho0) hb); have n1_ := Aside0.mk (Kd.N_lower (Kd.N_mono (ok' := fun k_ => (P1_ k_ ∨ w.heap.size ≤ k_)) (Kd.S_N (Kd.S_bound ho0)) (fun k_ hk_ => (.inr (Nat.le_trans (below_size (by repeat (first | (with_reducible first | exact HB.out | apply below_alloc | apply pw_below_drewN | apply below_drew1) | exact HB.out))) hk_.2.1)))) (below_size (by repeat (first | (with_reducible first | exact HB.out | apply below_alloc | apply pw_below_drewN | apply below_drew1) | exact HB.out)))); have n2_ := Aside0.mk (below_step (by repeat (first | (with_reducible first | exact HB.out | apply below_alloc | apply pw_below_drewN | apply below_drew1) | exact HB.out)) hb); clear HO1; clear HB; have HO1 := n0_; have HO154 := n1_; have HB := n2_; clear n0_ n1_ n2_; (try clear hb); (try clear hb2); (try clear hk); (try clear hi); (try clear ho0)))
    go_ret3
    exact ⟨_, by first | rfl | (simp [errW_none, errW_some] <;> rfl) | (simp [*, errW_none, errW_some] <;> rfl), by first | exact Kd.R_nil _ _ _ _ _ | exact Kd.N_nil _ _ _ _ _ | exact Kd.V_nil _ _ _ _ _ | exact Kd.Q_nil _ _ _ _ _ | exact Kd.S_nil _ _ _ _ _, by repeat (first | (with_reducible first | exact HB.out | apply below_alloc | apply pw_below_drewN | apply below_drew1) | exact HB.out)⟩

/-! ### longstopref12_Update: function 22 -/
def longstopref12_Update.j0 : Nat → Int → List Int → List (S59) → Bool → Option (List Int × Int)
  | 0, _, _, _, _ => none
  | k + 1, x1, x2, x8, x32 => if x32 = true then (some (([] : List Int), 3)) else (if 0 ≤ x1 then (if x1 < (x8.length : Int) then ((some (x8.set (x1 : Int).toNat (⟨([] : List Int), (rd_T59 x8 x1).f1⟩ : S59) : List (S59))).bind fun y169 => ((longstopref12_room.f k y169).bind fun t170 => (if (x2.length : Int) > t170 then (some (([] : List Int), 7)) else ((longstopref12_write.f (y169.set (x1 : Int).toNat (⟨x2, (rd_T59 y169 x1).f1⟩ : S59))).bind fun t172 => (some (t172, 0)))))) else (none)) else (none))
def longstopref12_Update.f (k : Nat) (l0 : List Int) (a1 : Int) (l2 : List Int) : Option (List Int × Int) := (longstopref12_read.f l0).bind fun bt164 => (if bt164.2 = true then (if a1 < 0 then (longstopref12_Update.j0 k a1 l2 bt164.1 true) else (if a1 ≥ (bt164.1.length : Int) then (longstopref12_Update.j0 k a1 l2 bt164.1 true) else (if 0 ≤ a1 then (if a1 < (bt164.1.length : Int) then (longstopref12_Update.j0 k a1 l2 bt164.1 (!((rd_T59 bt164.1 a1).f1))) else (none)) else (none)))) else (some (([] : List Int), 21)))
theorem longstopref12_Update.mono_l : ∀ k, (∀ y0 y1 y2 y3, LeO (longstopref12_Update.j0 k y0 y1 y2 y3) (longstopref12_Update.j0 (k + 1) y0 y1 y2 y3))
  | 0 => fun _ _ _ _ r h => by simp [longstopref12_Update.j0] at h
  | k + 1 => by
    have ih0 := longstopref12_Update.mono_l k
    · intro y0 y1 y2 y3
      unfold longstopref12_Update.j0
      repeat' first
      | (with_reducible exact ih0 _ _ _ _)
      | (with_reducible exact longstopref12_room.mono _ _)
      | (with_reducible exact LeO.refl _)
      | (with_reducible exact LeO.none _)
      | (with_reducible refine LeO.ite ?_ ?_)
      | (with_reducible refine LeO.bind ?_ (fun _ => ?_))
      | exact ih0 _ _ _ _
      | exact longstopref12_room.mono _ _
      | exact LeO.none _
      | refine LeO.ite ?_ ?_
      | refine LeO.bind ?_ (fun _ => ?_)
theorem longstopref12_Update.mono : ∀ a0 a1 a2 k, LeO (longstopref12_Update.f k a0 a1 a2) (longstopref12_Update.f (k + 1) a0 a1 a2) := by
  intro a0 a1 a2 k
  have ih0 := longstopref12_Update.mono_l k
  unfold longstopref12_Update.f
  repeat' first
      | (with_reducible exact ih0 _ _ _ _)
      | (with_reducible exact longstopref12_room.mono _ _)
      | (with_reducible exact LeO.refl _)
      | (with_reducible exact LeO.none _)
      | (with_reducible refine LeO.ite ?_ ?_)
      | (with_reducible refine LeO.bind ?_ (fun _ => ?_))
      | exact ih0 _ _ _ _
      | exact longstopref12_room.mono _ _
      | exact LeO.none _
      | refine LeO.ite ?_ ?_
      | refine LeO.bind ?_ (fun _ => ?_)
set_option maxHeartbeats 8000000 in
set_option maxRecDepth 100000 in
theorem longstopref12_Update.calls (k : Nat) (A0 : Option Addr) (c0 : Nat) (l0 : List Int) (a1 : Int) (P2_ : Nat → Prop) (A2 : Option Addr) (c2 : Nat) (l2 : List Int) (r1 : List Int) (r2 : Int) (w : World) (hr0 : Kd.C (Kd.int .u8) w A0 l0.length l0) (hc0 : l0.length ≤ c0) (hs2 : Kd.V (Kd.int .u8) 5 w w.heap.size (fun k_ => P2_ k_) (.slice A2 l2.length c2) l2) (h : longstopref12_Update.f k l0 a1 l2 = some (r1, r2)) :
    Calls Try.prog 22 #[.slice A0 l0.length c0, .int .i64 a1, .slice A2 l2.length c2] w fun e w' => ∃ v0_ : Value, e = .returned (.tuple #[v0_, .int .i64 r2]) ∧ Kd.R (Kd.int .u8) 5 w' w.heap.size (fun k_ => (w.heap.size ≤ k_)) v0_ r1 ∧ Below w.heap.size w w' := by
  have HR0 := Aside0.mk hr0
  have HC0 := Aside0.mk hc0
  clear hr0 hc0
  have HO2 := Aside0.mk (show Kd.V (Kd.int .u8) 5 w w.heap.size (fun k_ => (P2_ k_ ∨ w.heap.size ≤ k_)) (.slice A2 l2.length c2) l2 from Kd.V_mono hs2 (fun k_ hk => .inl hk))
  have HB := Aside0.mk (Below.refl w.heap.size w)
  have H : ((longstopref12_read.f l0).bind fun bt164 => (if bt164.2 = true then (if a1 < 0 then (longstopref12_Update.j0 k a1 l2 bt164.1 true) else (if a1 ≥ (bt164.1.length : Int) then (longstopref12_Update.j0 k a1 l2 bt164.1 true) else (if 0 ≤ a1 then (if a1 < (bt164.1.length : Int) then (longstopref12_Update.j0 k a1 l2 bt164.1 (!((rd_T59 bt164.1 a1).f1))) else (none)) else (none)))) else (some (([] : List Int), 21)))) = some (r1, r2) := h
  clear h
  replace H := Option.bind_eq_some_iff.mp H
  obtain ⟨⟨t164, t165⟩, A40, H⟩ := H
  replace H : (if t165 = true then (if a1 < 0 then (longstopref12_Update.j0 k a1 l2 t164 true) else (if a1 ≥ (t164.length : Int) then (longstopref12_Update.j0 k a1 l2 t164 true) else (if 0 ≤ a1 then (if a1 < (t164.length : Int) then (longstopref12_Update.j0 k a1 l2 t164 (!((rd_T59 t164 a1).f1))) else (none)) else (none)))) else (some (([] : List Int), 21))) = some (r1, r2) := H
  have A4 := Aside0.mk A40
  clear A40
  by_cases c5 : t165 = true
  · subst c5
    have H1 : (if a1 < 0 then (longstopref12_Update.j0 k a1 l2 t164 true) else (if a1 ≥ (t164.length : Int) then (longstopref12_Update.j0 k a1 l2 t164 true) else (if 0 ≤ a1 then (if a1 < (t164.length : Int) then (longstopref12_Update.j0 k a1 l2 t164 (!((rd_T59 t164 a1).f1))) else (none)) else (none)))) = some (r1, r2) := by rw [if_pos rfl] at H; exact H
    clear H
    have H := H1
    clear H1
    have HC6 := Aside0.mk H
    clear H
    go_enter Try.func22, Try.ntmps22
    go_upto_region 4 with (first | ((with_reducible refine gate_callee (f := 27) rfl ?_); refine goesL_ (some 12) rfl rfl Try.func27 (by kernel_rfl) rfl #[.slice A0 l0.length c0] rfl (by (try simp only [List.map_toArray, List.map_cons, List.map_nil]); first | done | rfl | (simp only [List.length_drop, List.length_take]; rfl)) ?_; (with_reducible refine (longstopref12_read.calls _ _ l0 t164 true _ ?side1 ?side2 A4.out).mono ?_); (case side1 => repeat (first | exact HR0.out | (with_reducible refine Kd.C_alloc ?_ _) | (with_reducible refine Kd.C_drewN ?_ _) | (with_reducible refine Kd.C_drew ?_))); (case side2 => exact HC0.out); rintro e w7 ⟨v166, rfl, ho0, hb⟩; refine ⟨_, rfl, ?_⟩; have n0_ := Aside0.mk (Kd.V_elder' (by (with_reducible repeat (first | apply Kd.V_alloc | apply Kd.V_drewN | apply Kd.V_drew)); exact HO2.out) (Kd.S_base ho0) hb); have n1_ := Aside0.mk (Kd.N_lower (Kd.N_mono (ok' := fun k_ => (P2_ k_ ∨ w.heap.size ≤ k_)) (Kd.S_N (Kd.S_bound ho0)) (fun k_ hk_ => (.inr (Nat.le_trans (below_size (by repeat (first | (with_reducible first | exact HB.out | apply below_alloc | apply pw_below_drewN | apply below_drew1) | exact HB.out))) hk_.2.1)))) (below_size (by repeat (first | (with_reducible first | exact HB.out | apply below_alloc | apply pw_below_drewN | apply below_drew1) | exact HB.out)))); have n2_ := Aside0.mk (below_step (by repeat (first | (with_reducible first | exact HB.out | apply below_alloc | apply pw_below_drewN | apply below_drew1) | exact HB.out)) hb); clear HO2; clear HB; have HO2 := n0_; have HO167 := n1_; have HB := n2_; clear n0_ n1_ n2_; (try clear hb); (try clear hb2); (try clear hk); (try clear hi); (try clear ho0)))
    (try simp only [Act.put, List.setIfInBounds_toArray, List.set_cons_zero, List.set_cons_succ])
    go_cut [32] (fun v32 wc => ∃ (kq : Nat) (x32_5 : Bool), v32 = .bool x32_5 ∧ Aside0 (longstopref12_Update.j0 kq a1 l2 t164 x32_5 = some (r1, r2)) ∧ Aside0 (kq ≤ k) ∧ Aside0 (Kd.V (Kd.int .u8) 5 wc w.heap.size (fun k_ => (P2_ k_ ∨ w.heap.size ≤ k_) ∧ some k_ ≠ (v166 : Value).ownBlock) (.slice A2 l2.length c2) l2) ∧ Aside0 (Kd.N k59 59 wc w.heap.size (fun k_ => (P2_ k_ ∨ w.heap.size ≤ k_)) v166 t164) ∧ Aside0 (Below w.heap.size w wc))
    case first =>
      have H := HC6.out
      clear HC6
      by_cases c8 : a1 < 0
      · rw [if_pos c8] at H
        have c8b0 : decide (a1 < 0) = true := decide_eq_true c8
        clear c8
        (first | rw [c8b0] | (simp only [i64_w, i32_w]; rw [c8b0]) | skip)
        have H' := Aside0.mk H
        clear H
        go_wp2
        go_meet
        case rel => exact ⟨_, (true), (by first | rfl | (simp; done) | (simp [*]; done)), H', ⟨by first | omega | exact Nat.le_refl _⟩, ⟨by (with_reducible repeat (first | apply Kd.V_alloc | apply Kd.V_drewN | apply Kd.V_drew)); exact HO2.out⟩, ⟨by (with_reducible repeat (first | apply Kd.N_alloc | apply Kd.N_drewN | apply Kd.N_drew)); exact HO167.out⟩, ⟨by repeat (first | (with_reducible first | exact HB.out | apply below_alloc | apply pw_below_drewN | apply below_drew1) | exact HB.out)⟩⟩
      · rw [if_neg c8] at H
        have c8b0 : decide (a1 < 0) = false := decide_eq_false c8
        clear c8
        (first | rw [c8b0] | (simp only [i64_w, i32_w]; rw [c8b0]) | skip)
        by_cases c9 : a1 ≥ (t164.length : Int)
        · rw [if_pos c9] at H
          have c9b0 : decide ((t164.length : Int) ≤ a1) = true := decide_eq_true c9
          clear c9
          have H' := Aside0.mk H
          clear H
          obtain ⟨Ao10, co10, eo10⟩ := Kd.N_slice HO167.out
          subst eo10
          go_wp2
          go_meet
          case rel => exact ⟨_, (true), (by first | rfl | (simp; done) | (simp [*]; done)), H', ⟨by first | omega | exact Nat.le_refl _⟩, ⟨by (with_reducible repeat (first | apply Kd.V_alloc | apply Kd.V_drewN | apply Kd.V_drew)); exact HO2.out⟩, ⟨by (with_reducible repeat (first | apply Kd.N_alloc | apply Kd.N_drewN | apply Kd.N_drew)); exact HO167.out⟩, ⟨by repeat (first | (with_reducible first | exact HB.out | apply below_alloc | apply pw_below_drewN | apply below_drew1) | exact HB.out)⟩⟩
        · rw [if_neg c9] at H
          have c9b0 : decide ((t164.length : Int) ≤ a1) = false := decide_eq_false c9
          clear c9
          by_cases c11 : 0 ≤ a1
          · rw [if_pos c11] at H
            have c11b0 : decide (0 ≤ a1) = true := decide_eq_true c11
            clear c11
            by_cases c12 : a1 < (t164.length : Int)
            · rw [if_pos c12] at H
              have c12b0 : decide (a1 < (t164.length : Int)) = true := decide_eq_true c12
              clear c12
              have H' := Aside0.mk H
              clear H
              obtain ⟨Ao13, co13, eo13⟩ := Kd.N_slice HO167.out
              subst eo13
              have p168 : 0 ≤ (a1 : Int) := of_decide_eq_true (by first | (with_reducible assumption) | assumption)
              have q168 : a1 < (t164.length : Int) := of_decide_eq_true (by first | (with_reducible assumption) | assumption)
              obtain ⟨ad168, A168_0, c168_0, e168, hx168_0, hx168_1, hl168_0, hi168_0⟩ := at_T59 (Kd.N_reads' HO167.out).2.2 a1 p168 q168
              cases e168
              obtain ⟨ce168, hce168, hMe168, hcc168⟩ := Kd.N_get HO167.out z59 a1 p168 (by first | exact q168 | exact of_decide_eq_true (by first | (with_reducible assumption) | assumption) | (have e_ := (Kd.N_reads' HO167.out).1; omega))
              obtain ⟨ua168_0, uc168_0, rfl, ul168_0, ge168_0⟩ := k59_openF hMe168
              have hv168_0 := hcc168 0 _ rfl
              rw [Nat.add_zero] at hv168_0
              replace hv168_0 := Option.some.inj (hv168_0.symm.trans hx168_0)
              injection hv168_0 with hva_ hvn_ hvc_
              rw [hva_] at ge168_0
              rw [hvc_] at ul168_0
              have HL168_0 := Aside0.mk (show Kd.V (Kd.int .u8) 5 _ w.heap.size _ _ ((rd_T59 t164 a1).f0) from Kd.V_mk ul168_0 ge168_0)
              clear hva_ hvn_ hvc_ ge168_0 ul168_0
              clear hcc168 hce168
              have HR168_0 := Aside0.mk hi168_0
              have HC168_0 := Aside0.mk hl168_0
              clear hi168_0 hl168_0
              replace p168 := eq_true p168
              replace q168 := eq_true q168
              go_wp2
              go_meet
              case rel => exact ⟨_, (!((rd_T59 t164 a1).f1)), (by first | rfl | (simp; done) | (simp [*]; done)), H', ⟨by first | omega | exact Nat.le_refl _⟩, ⟨by (with_reducible repeat (first | apply Kd.V_alloc | apply Kd.V_drewN | apply Kd.V_drew)); exact HO2.out⟩, ⟨by (with_reducible repeat (first | apply Kd.N_alloc | apply Kd.N_drewN | apply Kd.N_drew)); exact HO167.out⟩, ⟨by repeat (first | (with_reducible first | exact HB.out | apply below_alloc | apply pw_below_drewN | apply below_drew1) | exact HB.out)⟩⟩
            · rw [if_neg c12] at H
              exact absurd H (by simp)
          · rw [if_neg c11] at H
            exact absurd H (by simp)
    case rest =>
      clear HC6
      try clear c1
      try clear p1
      try clear q1
      try clear hx1
      try clear c2
      try clear p2
      try clear c5
      try clear c8
      try clear c8b0
      try clear c9
      try clear c9b0
      try clear c11
      try clear c11b0
      try clear c12
      try clear c12b0
      try clear hx168_0
      try clear hx168_1
      try clear p168
      try clear q168
      obtain ⟨kq, x32_5, rfl, HA, HJ5, HO_2, HO_8, HB⟩ := hcut
      cases kq with
      | zero => exact absurd HA.out (by simp [longstopref12_Update.j0])
      | succ kj5 =>
        have H := HA.out
        clear HA
        simp only [longstopref12_Update.j0] at H
        by_cases c14 : x32_5 = true
        · subst c14
          have H1 : (some (([] : List Int), 3)) = some (r1, r2) := by rw [if_pos rfl] at H; exact H
          clear H
          have H := H1
          clear H1
          simp only [Option.some.injEq, Prod.mk.injEq] at H
          obtain ⟨rfl, rfl⟩ := H
          go_wp2
          go_ret2
          exact ⟨_, by first | rfl | (simp [errW_none, errW_some] <;> rfl) | (simp [*, errW_none, errW_some] <;> rfl), by first | exact Kd.R_nil _ _ _ _ _ | exact Kd.N_nil _ _ _ _ _ | exact Kd.V_nil _ _ _ _ _ | exact Kd.Q_nil _ _ _ _ _ | exact Kd.S_nil _ _ _ _ _, by repeat (first | (with_reducible first | exact HB.out | apply below_alloc | apply pw_below_drewN | apply below_drew1) | exact HB.out)⟩
        · replace c14 := Bool.eq_false_iff.mpr c14
          subst c14
          have H1 : (if 0 ≤ a1 then (if a1 < (t164.length : Int) then ((some (t164.set (a1 : Int).toNat (⟨([] : List Int), (rd_T59 t164 a1).f1⟩ : S59) : List (S59))).bind fun y169 => ((longstopref12_room.f kj5 y169).bind fun t170 => (if (l2.length : Int) > t170 then (some (([] : List Int), 7)) else ((longstopref12_write.f (y169.set (a1 : Int).toNat (⟨l2, (rd_T59 y169 a1).f1⟩ : S59))).bind fun t172 => (some (t172, 0)))))) else (none)) else (none)) = some (r1, r2) := by rw [if_neg (show ¬ (false = true) by decide)] at H; exact H
          clear H
          have H := H1
          clear H1
          by_cases c15 : 0 ≤ a1
          · rw [if_pos c15] at H
            have c15b0 : decide (0 ≤ a1) = true := decide_eq_true c15
            clear c15
            by_cases c16 : a1 < (t164.length : Int)
            · rw [if_pos c16] at H
              have c16b0 : decide (a1 < (t164.length : Int)) = true := decide_eq_true c16
              clear c16
              obtain ⟨y169, hy169⟩ : ∃ y_ : List (S59), y_ = (t164.set (a1 : Int).toNat (⟨([] : List Int), (rd_T59 t164 a1).f1⟩ : S59)) := ⟨_, rfl⟩
              replace H : ((longstopref12_room.f kj5 y169).bind fun t170 => (if (l2.length : Int) > t170 then (some (([] : List Int), 7)) else ((longstopref12_write.f (y169.set (a1 : Int).toNat (⟨l2, (rd_T59 y169 a1).f1⟩ : S59))).bind fun t172 => (some (t172, 0))))) = some (r1, r2) := by first | (rw [hy169]; with_reducible exact H) | (have H2_ := (Option.bind_some _ _).symm.trans H; rw [hy169]; with_reducible exact H2_) | (have H2_ := (Option.bind_some _ _).symm.trans H; with_reducible exact H2_) | with_reducible exact H | (rw [hy169]; exact H) | exact H
              have Ny169 := Aside0.mk hy169
              clear hy169
              replace H := Option.bind_eq_some_iff.mp H
              obtain ⟨t170, A180, H⟩ := H
              replace H : (if (l2.length : Int) > t170 then (some (([] : List Int), 7)) else ((longstopref12_write.f (y169.set (a1 : Int).toNat (⟨l2, (rd_T59 y169 a1).f1⟩ : S59))).bind fun t172 => (some (t172, 0)))) = some (r1, r2) := H
              have A18 := Aside0.mk A180
              clear A180
              by_cases c19 : (l2.length : Int) > t170
              · rw [if_pos c19] at H
                have c19b0 : decide (t170 < (l2.length : Int)) = true := decide_eq_true c19
                clear c19
                simp only [Option.some.injEq, Prod.mk.injEq] at H
                obtain ⟨rfl, rfl⟩ := H
                have p17 : 0 ≤ (a1 : Int) := of_decide_eq_true (by first | (with_reducible assumption) | assumption)
                have q17 : (a1 : Int) < ((t164.length : Int) : Int) := of_decide_eq_true (by first | (with_reducible assumption) | assumption)
                obtain ⟨go17, co17, eo17, gb17, gl17, cl17, HG17⟩ := Kd.N_form HO_8.out (by omega)
                (first | cases eo17 | (injection eo17 with ea_ en_ ec_; (first | subst ea_ | (injection ea_ with ea_; subst ea_)); subst ec_; clear en_))
                have GB17 := Aside0.mk gb17
                have GG17 := Aside0.mk HG17
                clear gb17 gl17 HG17
                obtain ⟨ce17, hcl17, hM17, hcc17, hfr17⟩ := Kd.N_elem HO_8.out z59 (a1 : Int) p17 q17
                obtain ⟨ua17_0, uc17_0, rfl, ul17_0, ge17_0⟩ := k59_openF hM17
                have hx17_0 : wc.cell? ⟨go17, (a1 : Int).toNat * 2, none⟩ = some (.slice ua17_0 ((rd_T59 t164 a1).f0).length uc17_0) := hcc17 0 _ rfl
                have hx17_1 : wc.cell? ⟨go17, (a1 : Int).toNat * 2 + 1, none⟩ = some (.bool ((rd_T59 t164 a1).f1)) := hcc17 1 _ rfl
                have hf17_0 : wc.frozen? ⟨go17, (a1 : Int).toNat * 2, none⟩ = false := hfr17 0
                have hf17_1 : wc.frozen? ⟨go17, (a1 : Int).toNat * 2 + 1, none⟩ = false := hfr17 1
                clear hcl17 hcc17 hfr17 hM17
                replace p17 := eq_true p17
                replace q17 := eq_true q17
                have HX20 := Aside0.mk (show Kd.N k59 59 wc w.heap.size (fun k_ => (P2_ k_ ∨ w.heap.size ≤ k_)) (.slice (some ⟨go17, 0, none⟩) t164.length co17) t164 from (by (with_reducible repeat (first | apply Kd.N_alloc | apply Kd.N_drewN | apply Kd.N_drew)); exact HO_8.out))
                obtain ⟨ce20, hcl20, hM20, hcc20, hfr20⟩ := Kd.N_elem HX20.out z59 (a1 : Int) (of_decide_eq_true (by first | (with_reducible assumption) | assumption)) (by have h_ : (a1 : Int) < ((t164.length : Int) : Int) := of_decide_eq_true (by first | (with_reducible assumption) | assumption); first | exact h_ | (have e_ := (Kd.N_reads' HO_8.out).1; omega) | simpa using h_)
                obtain ⟨ua20_0, uc20_0, rfl, ul20_0, ge20_0⟩ := k59_openF hM20
                have HP20 := Kd.N_seg HX20.out (a1 : Int) (of_decide_eq_true (by first | (with_reducible assumption) | assumption)) (by have h_ : (a1 : Int) < ((t164.length : Int) : Int) := of_decide_eq_true (by first | (with_reducible assumption) | assumption); first | exact h_ | (have e_ := (Kd.N_reads' HO_8.out).1; omega) | simpa using h_) (seg := [.slice none 0 0]) (j := 0) hcl20 hcc20 (show 1 ≤ 2 from by decide) (x' := (⟨([] : List Int), (rd_T59 t164 a1).f1⟩ : S59)) (k59_mkF _ _ (⟨([] : List Int), (rd_T59 t164 a1).f1⟩ : S59) (Nat.le_refl _) (Kd.F_nil _ _ _)) (fun _ hk => hk)
                have hx20_0 := hcc20 0 _ rfl
                (try simp only [show (k59).sz = 2 from rfl, Nat.mul_one, Nat.add_zero] at hx20_0)
                have hf20_0 := hfr20 0
                (try simp only [show (k59).sz = 2 from rfl, Nat.mul_one, Nat.add_zero] at hf20_0)
                clear hcl20 hcc20 hfr20 hM20
                go_wp2_with (first | ((with_reducible refine gate_store (t := 22) (p := 36) rfl ?_); refine store_event (t := 22) (p := 36) (v := ?vo_w21) (w1 := (wc.setCell ⟨go17, (a1 : Int).toNat * 2, none⟩ (.slice none 0 0))) ?hg ?ho ?hn ?hr ?_; (case ho => rfl); (case hg => rfl); (case hn => rfl); (case hr => first | (go_simp; done) | (go_simp; rfl)); intro w21 hw; have hg : wc.grownBy w21 (some go17) := (by rw [hw]; exact HP20.2); have hp_ : Kd.N k59 59 w21 w.heap.size (fun k_ => (P2_ k_ ∨ w.heap.size ≤ k_)) (.slice (some ⟨go17, 0, none⟩) t164.length co17) y169 := (by rw [hw, Ny169.out]; exact HP20.1); clear HP20; have n0_ := Aside0.mk (Kd.V_afterv (v := (.slice (some ⟨go17, 0, none⟩) t164.length co17)) (v1 := (.slice (some ⟨go17, 0, none⟩) t164.length co17)) (ok := (fun k_ => (P2_ k_ ∨ w.heap.size ≤ k_))) (by (with_reducible repeat (first | apply Kd.V_alloc | apply Kd.V_drewN | apply Kd.V_drew)); exact HO_2.out) hg (.inl rfl)); have n1_ := Aside0.mk (hp_); have n2_ := Aside0.mk ((by rw [hw]; exact below_set (HB.out) GB17.out : Below w.heap.size w w21)); clear HO_2; clear HO_8; clear HB; have HO_2 := n0_; have HO_8 := n1_; have HB := n2_; clear n0_ n1_ n2_; clear hg hw hp_) | ((with_reducible refine gate_callee (f := 29) rfl ?_); refine goesL_ (some 40) rfl rfl Try.func29 (by kernel_rfl) rfl #[.slice (some ⟨go17, 0, none⟩) y169.length co17] rfl (by (try simp only [List.map_toArray, List.map_cons, List.map_nil]); first | done | (rw [show y169.length = t164.length from (Kd.N_reads' HO_8.out).1.symm] <;> rfl) | rfl | (simp only [List.length_drop, List.length_take]; rfl)) ?_; (with_reducible refine (longstopref12_room.calls kj5 _ _ y169 t170 _ ?side1 ?side2 A18.out).mono ?_); (case side1 => repeat (first | exact (Kd.N_reads' HO_8.out).2.2 | (with_reducible refine Kd.C_alloc ?_ _) | (with_reducible refine Kd.C_drewN ?_ _) | (with_reducible refine Kd.C_drew ?_))); (case side2 => rw [show y169.length = t164.length from (Kd.N_reads' HO_8.out).1.symm]; exact (Kd.N_reads' HO_8.out).2.1); rintro e w' ⟨rfl, ⟨nd, rfl⟩⟩; refine ⟨_, rfl, ?_⟩))
                go_ret2
                exact ⟨_, by first | rfl | (simp [errW_none, errW_some] <;> rfl) | (simp [*, errW_none, errW_some] <;> rfl), by first | exact Kd.R_nil _ _ _ _ _ | exact Kd.N_nil _ _ _ _ _ | exact Kd.V_nil _ _ _ _ _ | exact Kd.Q_nil _ _ _ _ _ | exact Kd.S_nil _ _ _ _ _, by repeat (first | (with_reducible first | exact HB.out | apply below_alloc | apply pw_below_drewN | apply below_drew1) | exact HB.out)⟩
              · rw [if_neg c19] at H
                have c19b0 : decide (t170 < (l2.length : Int)) = false := decide_eq_false c19
                clear c19
                obtain ⟨y171, hy171⟩ : ∃ y_ : List (S59), y_ = (y169.set (a1 : Int).toNat (⟨l2, (rd_T59 y169 a1).f1⟩ : S59)) := ⟨_, rfl⟩
                replace H : ((longstopref12_write.f y171).bind fun t172 => (some (t172, 0))) = some (r1, r2) := by first | (rw [hy171]; with_reducible exact H) | (have H2_ := (Option.bind_some _ _).symm.trans H; rw [hy171]; with_reducible exact H2_) | (have H2_ := (Option.bind_some _ _).symm.trans H; with_reducible exact H2_) | with_reducible exact H | (rw [hy171]; exact H) | exact H
                have Ny171 := Aside0.mk hy171
                clear hy171
                replace H := Option.bind_eq_some_iff.mp H
                obtain ⟨t172, A230, H⟩ := H
                replace H : (some (t172, 0)) = some (r1, r2) := H
                have A23 := Aside0.mk A230
                clear A230
                simp only [Option.some.injEq, Prod.mk.injEq] at H
                obtain ⟨rfl, rfl⟩ := H
                have p17 : 0 ≤ (a1 : Int) := of_decide_eq_true (by first | (with_reducible assumption) | assumption)
                have q17 : (a1 : Int) < ((t164.length : Int) : Int) := of_decide_eq_true (by first | (with_reducible assumption) | assumption)
                obtain ⟨go17, co17, eo17, gb17, gl17, cl17, HG17⟩ := Kd.N_form HO_8.out (by omega)
                (first | cases eo17 | (injection eo17 with ea_ en_ ec_; (first | subst ea_ | (injection ea_ with ea_; subst ea_)); subst ec_; clear en_))
                have GB17 := Aside0.mk gb17
                have GG17 := Aside0.mk HG17
                clear gb17 gl17 HG17
                obtain ⟨ce17, hcl17, hM17, hcc17, hfr17⟩ := Kd.N_elem HO_8.out z59 (a1 : Int) p17 q17
                obtain ⟨ua17_0, uc17_0, rfl, ul17_0, ge17_0⟩ := k59_openF hM17
                have hx17_0 : wc.cell? ⟨go17, (a1 : Int).toNat * 2, none⟩ = some (.slice ua17_0 ((rd_T59 t164 a1).f0).length uc17_0) := hcc17 0 _ rfl
                have hx17_1 : wc.cell? ⟨go17, (a1 : Int).toNat * 2 + 1, none⟩ = some (.bool ((rd_T59 t164 a1).f1)) := hcc17 1 _ rfl
                have hf17_0 : wc.frozen? ⟨go17, (a1 : Int).toNat * 2, none⟩ = false := hfr17 0
                have hf17_1 : wc.frozen? ⟨go17, (a1 : Int).toNat * 2 + 1, none⟩ = false := hfr17 1
                clear hcl17 hcc17 hfr17 hM17
                replace p17 := eq_true p17
                replace q17 := eq_true q17
                have HX24 := Aside0.mk (show Kd.N k59 59 wc w.heap.size (fun k_ => (P2_ k_ ∨ w.heap.size ≤ k_)) (.slice (some ⟨go17, 0, none⟩) t164.length co17) t164 from (by (with_reducible repeat (first | apply Kd.N_alloc | apply Kd.N_drewN | apply Kd.N_drew)); exact HO_8.out))
                obtain ⟨ce24, hcl24, hM24, hcc24, hfr24⟩ := Kd.N_elem HX24.out z59 (a1 : Int) (of_decide_eq_true (by first | (with_reducible assumption) | assumption)) (by have h_ : (a1 : Int) < ((t164.length : Int) : Int) := of_decide_eq_true (by first | (with_reducible assumption) | assumption); first | exact h_ | (have e_ := (Kd.N_reads' HO_8.out).1; omega) | simpa using h_)
                obtain ⟨ua24_0, uc24_0, rfl, ul24_0, ge24_0⟩ := k59_openF hM24
                have HP24 := Kd.N_seg HX24.out (a1 : Int) (of_decide_eq_true (by first | (with_reducible assumption) | assumption)) (by have h_ : (a1 : Int) < ((t164.length : Int) : Int) := of_decide_eq_true (by first | (with_reducible assumption) | assumption); first | exact h_ | (have e_ := (Kd.N_reads' HO_8.out).1; omega) | simpa using h_) (seg := [.slice none 0 0]) (j := 0) hcl24 hcc24 (show 1 ≤ 2 from by decide) (x' := (⟨([] : List Int), (rd_T59 t164 a1).f1⟩ : S59)) (k59_mkF _ _ (⟨([] : List Int), (rd_T59 t164 a1).f1⟩ : S59) (Nat.le_refl _) (Kd.F_nil _ _ _)) (fun _ hk => hk)
                have hx24_0 := hcc24 0 _ rfl
                (try simp only [show (k59).sz = 2 from rfl, Nat.mul_one, Nat.add_zero] at hx24_0)
                have hf24_0 := hfr24 0
                (try simp only [show (k59).sz = 2 from rfl, Nat.mul_one, Nat.add_zero] at hf24_0)
                clear hcl24 hcc24 hfr24 hM24
                go_wp2_with (first | ((with_reducible refine gate_store (t := 22) (p := 36) rfl ?_); refine store_event (t := 22) (p := 36) (v := ?vo_w25) (w1 := (wc.setCell ⟨go17, (a1 : Int).toNat * 2, none⟩ (.slice none 0 0))) ?hg ?ho ?hn ?hr ?_; (case ho => rfl); (case hg => rfl); (case hn => rfl); (case hr => first | (go_simp; done) | (go_simp; rfl)); intro w25 hw; have hg : wc.grownBy w25 (some go17) := (by rw [hw]; exact HP24.2); have hp_ : Kd.N k59 59 w25 w.heap.size (fun k_ => (P2_ k_ ∨ w.heap.size ≤ k_)) (.slice (some ⟨go17, 0, none⟩) t164.length co17) y169 := (by rw [hw, Ny169.out]; exact HP24.1); clear HP24; have n0_ := Aside0.mk (Kd.V_afterv (v := (.slice (some ⟨go17, 0, none⟩) t164.length co17)) (v1 := (.slice (some ⟨go17, 0, none⟩) t164.length co17)) (ok := (fun k_ => (P2_ k_ ∨ w.heap.size ≤ k_))) (by (with_reducible repeat (first | apply Kd.V_alloc | apply Kd.V_drewN | apply Kd.V_drew)); exact HO_2.out) hg (.inl rfl)); have n1_ := Aside0.mk (hp_); have n2_ := Aside0.mk ((by rw [hw]; exact below_set (HB.out) GB17.out : Below w.heap.size w w25)); clear HO_2; clear HO_8; clear HB; have HO_2 := n0_; have HO_8 := n1_; have HB := n2_; clear n0_ n1_ n2_; clear hg hw hp_) | ((with_reducible refine gate_callee (f := 29) rfl ?_); refine goesL_ (some 40) rfl rfl Try.func29 (by kernel_rfl) rfl #[.slice (some ⟨go17, 0, none⟩) y169.length co17] rfl (by (try simp only [List.map_toArray, List.map_cons, List.map_nil]); first | done | (rw [show y169.length = t164.length from (Kd.N_reads' HO_8.out).1.symm] <;> rfl) | rfl | (simp only [List.length_drop, List.length_take]; rfl)) ?_; (with_reducible refine (longstopref12_room.calls kj5 _ _ y169 t170 _ ?side1 ?side2 A18.out).mono ?_); (case side1 => repeat (first | exact (Kd.N_reads' HO_8.out).2.2 | (with_reducible refine Kd.C_alloc ?_ _) | (with_reducible refine Kd.C_drewN ?_ _) | (with_reducible refine Kd.C_drew ?_))); (case side2 => rw [show y169.length = t164.length from (Kd.N_reads' HO_8.out).1.symm]; exact (Kd.N_reads' HO_8.out).2.1); rintro e w' ⟨rfl, ⟨nd, rfl⟩⟩; refine ⟨_, rfl, ?_⟩; (try (rw [drewN_self w25]; generalize hq_ : World.drewN w25 _ = w25; have n0_ : Aside0 (Kd.V (Kd.int .u8) 5 w25 w.heap.size (fun k_ => (P2_ k_ ∨ w.heap.size ≤ k_) ∧ some k_ ≠ (.slice (some ⟨go17, 0, none⟩) t164.length co17 : Value).ownBlock) (.slice A2 l2.length c2) l2) := ⟨by rw [← hq_]; exact (by (with_reducible repeat (first | apply Kd.V_alloc | apply Kd.V_drewN | apply Kd.V_drew)); exact HO_2.out)⟩; have n1_ : Aside0 (Kd.N k59 59 w25 w.heap.size (fun k_ => (P2_ k_ ∨ w.heap.size ≤ k_)) (.slice (some ⟨go17, 0, none⟩) t164.length co17) y169) := ⟨by rw [← hq_]; exact (by (with_reducible repeat (first | apply Kd.N_alloc | apply Kd.N_drewN | apply Kd.N_drew)); exact HO_8.out)⟩; have n2_ : Aside0 (Below w.heap.size w w25) := ⟨by rw [← hq_]; exact (by repeat (first | (with_reducible first | exact HB.out | apply below_alloc | apply pw_below_drewN | apply below_drew1) | exact HB.out))⟩; clear HO_2 HO_8 HB hq_; have HO_2 := n0_; have HO_8 := n1_; have HB := n2_; clear n0_ n1_ n2_)); have p22 : 0 ≤ (a1 : Int) := of_decide_eq_true (by first | (with_reducible assumption) | assumption); have q22 : (a1 : Int) < ((t164.length : Int) : Int) := of_decide_eq_true (by first | (with_reducible assumption) | assumption); obtain ⟨ce22, hcl22, hM22, hcc22, hfr22⟩ := Kd.N_elem HO_8.out z59 (a1 : Int) p22 q22; obtain ⟨ua22_0, uc22_0, rfl, ul22_0, ge22_0⟩ := k59_openF hM22; have hx22_0 : w25.cell? ⟨go17, (a1 : Int).toNat * 2, none⟩ = some (.slice ua22_0 ((rd_T59 y169 a1).f0).length uc22_0) := hcc22 0 _ rfl; have hx22_1 : w25.cell? ⟨go17, (a1 : Int).toNat * 2 + 1, none⟩ = some (.bool ((rd_T59 y169 a1).f1)) := hcc22 1 _ rfl; have hf22_0 : w25.frozen? ⟨go17, (a1 : Int).toNat * 2, none⟩ = false := hfr22 0; have hf22_1 : w25.frozen? ⟨go17, (a1 : Int).toNat * 2 + 1, none⟩ = false := hfr22 1; clear hcl22 hcc22 hfr22 hM22; replace p22 := eq_true p22; replace q22 := eq_true q22; have HX26 := Aside0.mk (show Kd.N k59 59 w25 w.heap.size (fun k_ => (P2_ k_ ∨ w.heap.size ≤ k_)) (.slice (some ⟨go17, 0, none⟩) t164.length co17) y169 from (by (with_reducible repeat (first | apply Kd.N_alloc | apply Kd.N_drewN | apply Kd.N_drew)); exact HO_8.out)); obtain ⟨ce26, hcl26, hM26, hcc26, hfr26⟩ := Kd.N_elem HX26.out z59 (a1 : Int) (of_decide_eq_true (by first | (with_reducible assumption) | assumption)) (by have h_ : (a1 : Int) < ((t164.length : Int) : Int) := of_decide_eq_true (by first | (with_reducible assumption) | assumption); first | exact h_ | (have e_ := (Kd.N_reads' HO_8.out).1; omega) | simpa using h_); obtain ⟨ua26_0, uc26_0, rfl, ul26_0, ge26_0⟩ := k59_openF hM26; have HP26 := Kd.N_seg HX26.out (a1 : Int) (of_decide_eq_true (by first | (with_reducible assumption) | assumption)) (by have h_ : (a1 : Int) < ((t164.length : Int) : Int) := of_decide_eq_true (by first | (with_reducible assumption) | assumption); first | exact h_ | (have e_ := (Kd.N_reads' HO_8.out).1; omega) | simpa using h_) (seg := [.slice A2 l2.length c2]) (j := 0) hcl26 hcc26 (show 1 ≤ 2 from by decide) (x' := (⟨l2, (rd_T59 y169 a1).f1⟩ : S59)) (k59_mkF _ _ (⟨l2, (rd_T59 y169 a1).f1⟩ : S59) (Kd.V_reads' (Kd.V_mono (ok' := (fun k_ => ((fun k_ => (P2_ k_ ∨ w.heap.size ≤ k_))) k_ ∧ k_ ≠ go17)) (HO_2.out) (fun k_ hk => ⟨hk.1, fun e_ => (hk.2) (by rw [e_]; rfl)⟩))).2.1 (Kd.V_F (Kd.V_mono (ok' := (fun k_ => ((fun k_ => (P2_ k_ ∨ w.heap.size ≤ k_))) k_ ∧ k_ ≠ go17)) (HO_2.out) (fun k_ hk => ⟨hk.1, fun e_ => (hk.2) (by rw [e_]; rfl)⟩)))) (fun _ hk => hk); have hx26_0 := hcc26 0 _ rfl; (try simp only [show (k59).sz = 2 from rfl, Nat.mul_one, Nat.add_zero] at hx26_0); have hf26_0 := hfr26 0; (try simp only [show (k59).sz = 2 from rfl, Nat.mul_one, Nat.add_zero] at hf26_0); clear hcl26 hcc26 hfr26 hM26) | ((with_reducible refine gate_store (t := 22) (p := 46) rfl ?_); refine store_event (t := 22) (p := 46) (v := ?vo_w27) (w1 := (w25.setCell ⟨go17, (a1 : Int).toNat * 2, none⟩ (.slice A2 l2.length c2))) ?hg ?ho ?hn ?hr ?_; (case ho => rfl); (case hg => rfl); (case hn => rfl); (case hr => first | (go_simp; done) | (go_simp; rfl)); intro w27 hw; have hg : w25.grownBy w27 (some go17) := (by rw [hw]; exact HP26.2); have hp_ : Kd.N k59 59 w27 w.heap.size (fun k_ => (P2_ k_ ∨ w.heap.size ≤ k_)) (.slice (some ⟨go17, 0, none⟩) t164.length co17) y171 := (by rw [hw, Ny171.out]; exact HP26.1); clear HP26; have n0_ := Aside0.mk (Kd.V_afterv (v := (.slice (some ⟨go17, 0, none⟩) t164.length co17)) (v1 := (.slice (some ⟨go17, 0, none⟩) t164.length co17)) (ok := (fun k_ => (P2_ k_ ∨ w.heap.size ≤ k_))) (by (with_reducible repeat (first | apply Kd.V_alloc | apply Kd.V_drewN | apply Kd.V_drew)); exact HO_2.out) hg (.inl rfl)); have n1_ := Aside0.mk (hp_); have n2_ := Aside0.mk ((by rw [hw]; exact below_set (HB.out) GB17.out : Below w.heap.size w w27)); clear HO_2; clear HO_8; clear HB; have HO_2 := n0_; have HO_8 := n1_; have HB := n2_; clear n0_ n1_ n2_; clear hg hw hp_) | ((with_reducible refine gate_callee (f := 31) rfl ?_); refine goesL_ (some 48) rfl rfl Try.func31 (by kernel_rfl) rfl #[.slice (some ⟨go17, 0, none⟩) y171.length co17] rfl (by (try simp only [List.map_toArray, List.map_cons, List.map_nil]); first | done | (rw [show y171.length = t164.length from (Kd.N_reads' HO_8.out).1.symm] <;> rfl) | rfl | (simp only [List.length_drop, List.length_take]; rfl)) ?_; (with_reducible refine (longstopref12_write.calls _ _ y171 t172 _ ?side1 ?side2 A23.out).mono ?_); (case side1 => repeat (first | exact (Kd.N_reads' HO_8.out).2.2 | (with_reducible refine Kd.C_alloc ?_ _) | (with_reducible refine Kd.C_drewN ?_ _) | (with_reducible refine Kd.C_drew ?_))); (case side2 => rw [show y171.length = t164.length from (Kd.N_reads' HO_8.out).1.symm]; exact (Kd.N_reads' HO_8.out).2.1); rintro e w28 ⟨v173, rfl, ho0, hb⟩; refine ⟨_, rfl, ?_⟩; have n0_ := Aside0.mk (Kd.V_elder' (by (with_reducible repeat (first | apply Kd.V_alloc | apply Kd.V_drewN | apply Kd.V_drew)); exact HO_2.out) (Kd.R_base ho0) hb); have n1_ := Aside0.mk (Kd.N_elder' (by (with_reducible repeat (first | apply Kd.N_alloc | apply Kd.N_drewN | apply Kd.N_drew)); exact HO_8.out) (Kd.R_base ho0) hb); have n2_ := Aside0.mk (Kd.R_lower (Kd.R_newM (M := fun k_ => (w.heap.size ≤ k_)) ho0 (below_size (by repeat (first | (with_reducible first | exact HB.out | apply below_alloc | apply pw_below_drewN | apply below_drew1) | exact HB.out))) (fun k_ h_ => h_)) (below_size (by repeat (first | (with_reducible first | exact HB.out | apply below_alloc | apply pw_below_drewN | apply below_drew1) | exact HB.out)))); have n3_ := Aside0.mk (below_step (by repeat (first | (with_reducible first | exact HB.out | apply below_alloc | apply pw_below_drewN | apply below_drew1) | exact HB.out)) hb); clear HO_2; clear HO_8; clear HB; have HO_2 := n0_; have HO_8 := n1_; have HO174 := n2_; have HB := n3_; clear n0_ n1_ n2_ n3_; (try clear hb); (try clear hb2); (try clear hk); (try clear hi); (try clear ho0)))
                go_ret2
                exact ⟨_, by first | rfl | (simp [errW_none, errW_some] <;> rfl) | (simp [*, errW_none, errW_some] <;> rfl), by (with_reducible repeat (first | apply Kd.R_alloc | apply Kd.R_drewN | apply Kd.R_drew)); exact Kd.R_mono HO174.out (fun _ hk => hk.1), by repeat (first | (with_reducible first | exact HB.out | apply below_alloc | apply pw_below_drewN | apply below_drew1) | exact HB.out)⟩
            · rw [if_neg c16] at H
              exact absurd H (by simp)
          · rw [if_neg c15] at H
            exact absurd H (by simp)
  · replace c5 := Bool.eq_false_iff.mpr c5
    subst c5
    have H1 : (some (([] : List Int), 21)) = some (r1, r2) := by rw [if_neg (show ¬ (false = true) by decide)] at H; exact H
    clear H
    have H := H1
    clear H1
    simp only [Option.some.injEq, Prod.mk.injEq] at H
    obtain ⟨rfl, rfl⟩ := H
    go_enter Try.func22, Try.ntmps22
    go_wp2_with (first | ((with_reducible refine gate_callee (f := 27) rfl ?_); refine goesL_ (some 12) rfl rfl Try.func27 (by kernel_rfl) rfl #[.slice A0 l0.length c0] rfl (by (try simp only [List.map_toArray, List.map_cons, List.map_nil]); first | done | rfl | (simp only [List.length_drop, List.length_take]; rfl)) ?_; (with_reducible refine (longstopref12_read.calls _ _ l0 t164 false _ ?side1 ?side2 A4.out).mono ?_); (case side1 => repeat (first | exact HR0.out | (with_reducible refine Kd.C_alloc ?_ _) | (with_reducible refine Kd.C_drewN ?_ _) | (with_reducible refine Kd.C_drew ?_))); (case side2 => exact HC0.out); rintro e w29 ⟨v166, rfl, ho0, hb⟩; refine ⟨_, rfl, ?_⟩; have n0_ := Aside0.mk (Kd.V_elder' (by (with_reducible repeat (first | apply Kd.V_alloc | apply Kd.V_drewN | apply Kd.V_drew)); exact HO2.out) (Kd.S_base ho0) hb); have n1_ := Aside0.mk (Kd.N_lower (Kd.N_mono (ok' := fun k_ => (P2_ k_ ∨ w.heap.size ≤ k_)) (Kd.S_N (Kd.S_bound ho0)) (fun k_ hk_ => (.inr (Nat.le_trans (below_size (by repeat (first | (with_reducible first | exact HB.out | apply below_alloc | apply pw_below_drewN | apply below_drew1) | exact HB.out))) hk_.2.1)))) (below_size (by repeat (first | (with_reducible first | exact HB.out | apply below_alloc | apply pw_below_drewN | apply below_drew1) | exact HB.out)))); have n2_ := Aside0.mk (below_step (by repeat (first | (with_reducible first | exact HB.out | apply below_alloc | apply pw_below_drewN | apply below_drew1) | exact HB.out)) hb); clear HO2; clear HB; have HO2 := n0_; have HO167 := n1_; have HB := n2_; clear n0_ n1_ n2_; (try clear hb); (try clear hb2); (try clear hk); (try clear hi); (try clear ho0)))
    go_ret2
    exact ⟨_, by first | rfl | (simp [errW_none, errW_some] <;> rfl) | (simp [*, errW_none, errW_some] <;> rfl), by first | exact Kd.R_nil _ _ _ _ _ | exact Kd.N_nil _ _ _ _ _ | exact Kd.V_nil _ _ _ _ _ | exact Kd.Q_nil _ _ _ _ _ | exact Kd.S_nil _ _ _ _ _, by repeat (first | (with_reducible first | exact HB.out | apply below_alloc | apply pw_below_drewN | apply below_drew1) | exact HB.out)⟩

/-! ### longstopref12_Delete: function 24 -/
def longstopref12_Delete.f (l0 : List Int) (a1 : Int) : Option (List Int × Int) := (longstopref12_read.f l0).bind fun bt175 => (if bt175.2 = true then (if a1 < 0 then (some (([] : List Int), 3)) else (if a1 ≥ (bt175.1.length : Int) then (some (([] : List Int), 3)) else (if 0 ≤ a1 then (if a1 < (bt175.1.length : Int) then (if ((rd_T59 bt175.1 a1).f1 = true) then ((longstopref12_write.f (bt175.1.set (a1 : Int).toNat (⟨([] : List Int), false⟩ : S59))).bind fun t181 => (some (t181, 0))) else (some (([] : List Int), 3))) else (none)) else (none)))) else (some (([] : List Int), 21)))
set_option maxHeartbeats 8000000 in
set_option maxRecDepth 100000 in
theorem longstopref12_Delete.calls (A0 : Option Addr) (c0 : Nat) (l0 : List Int) (a1 : Int) (r1 : List Int) (r2 : Int) (w : World) (hr0 : Kd.C (Kd.int .u8) w A0 l0.length l0) (hc0 : l0.length ≤ c0) (h : longstopref12_Delete.f l0 a1 = some (r1, r2)) :
    Calls Try.prog 24 #[.slice A0 l0.length c0, .int .i64 a1] w fun e w' => ∃ v0_ : Value, e = .returned (.tuple #[v0_, .int .i64 r2]) ∧ Kd.R (Kd.int .u8) 5 w' w.heap.size (fun _ => True) v0_ r1 ∧ Below w.heap.size w w' := by
  have hu59 := Try.underlying59
  have HR0 := Aside0.mk hr0
  have HC0 := Aside0.mk hc0
  clear hr0 hc0
  have HB := Aside0.mk (Below.refl w.heap.size w)
  have H : ((longstopref12_read.f l0).bind fun bt175 => (if bt175.2 = true then (if a1 < 0 then (some (([] : List Int), 3)) else (if a1 ≥ (bt175.1.length : Int) then (some (([] : List Int), 3)) else (if 0 ≤ a1 then (if a1 < (bt175.1.length : Int) then (if ((rd_T59 bt175.1 a1).f1 = true) then ((longstopref12_write.f (bt175.1.set (a1 : Int).toNat (⟨([] : List Int), false⟩ : S59))).bind fun t181 => (some (t181, 0))) else (some (([] : List Int), 3))) else (none)) else (none)))) else (some (([] : List Int), 21)))) = some (r1, r2) := h
  clear h
  replace H := Option.bind_eq_some_iff.mp H
  obtain ⟨⟨t175, t176⟩, A30, H⟩ := H
  replace H : (if t176 = true then (if a1 < 0 then (some (([] : List Int), 3)) else (if a1 ≥ (t175.length : Int) then (some (([] : List Int), 3)) else (if 0 ≤ a1 then (if a1 < (t175.length : Int) then (if ((rd_T59 t175 a1).f1 = true) then ((longstopref12_write.f (t175.set (a1 : Int).toNat (⟨([] : List Int), false⟩ : S59))).bind fun t181 => (some (t181, 0))) else (some (([] : List Int), 3))) else (none)) else (none)))) else (some (([] : List Int), 21))) = some (r1, r2) := H
  have A3 := Aside0.mk A30
  clear A30
  by_cases c4 : t176 = true
  · subst c4
    have H1 : (if a1 < 0 then (some (([] : List Int), 3)) else (if a1 ≥ (t175.length : Int) then (some (([] : List Int), 3)) else (if 0 ≤ a1 then (if a1 < (t175.length : Int) then (if ((rd_T59 t175 a1).f1 = true) then ((longstopref12_write.f (t175.set (a1 : Int).toNat (⟨([] : List Int), false⟩ : S59))).bind fun t181 => (some (t181, 0))) else (some (([] : List Int), 3))) else (none)) else (none)))) = some (r1, r2) := by rw [if_pos rfl] at H; exact H
    clear H
    have H := H1
    clear H1
    by_cases c5 : a1 < 0
    · rw [if_pos c5] at H
      have c5b0 : decide (a1 < 0) = true := decide_eq_true c5
      clear c5
      simp only [Option.some.injEq, Prod.mk.injEq] at H
      obtain ⟨rfl, rfl⟩ := H
      go_enter Try.func24, Try.ntmps24
      go_wp2_with (first | ((with_reducible refine gate_callee (f := 27) rfl ?_); refine goesL_ (some 10) rfl rfl Try.func27 (by kernel_rfl) rfl #[.slice A0 l0.length c0] rfl (by (try simp only [List.map_toArray, List.map_cons, List.map_nil]); first | done | rfl | (simp only [List.length_drop, List.length_take]; rfl)) ?_; (with_reducible refine (longstopref12_read.calls _ _ l0 t175 true _ ?side1 ?side2 A3.out).mono ?_); (case side1 => repeat (first | exact HR0.out | (with_reducible refine Kd.C_alloc ?_ _) | (with_reducible refine Kd.C_drewN ?_ _) | (with_reducible refine Kd.C_drew ?_))); (case side2 => exact HC0.out); rintro e w6 ⟨v177, rfl, ho0, hb⟩; refine ⟨_, rfl, ?_⟩; have n0_ := Aside0.mk (Kd.S_lower ho0 (below_size (by repeat (first | (with_reducible first | exact HB.out | apply below_alloc | apply pw_below_drewN | apply below_drew1) | exact HB.out)))); have n1_ := Aside0.mk (below_step (by repeat (first | (with_reducible first | exact HB.out | apply below_alloc | apply pw_below_drewN | apply below_drew1) | exact HB.out)) hb); clear HB; have HO178 := n0_; have HB := n1_; clear n0_ n1_; (try clear hb); (try clear hb2); (try clear hk); (try clear hi); (try clear ho0)))
      go_ret2
      exact ⟨_, by first | rfl | (simp [errW_none, errW_some] <;> rfl) | (simp [*, errW_none, errW_some] <;> rfl), by first | exact Kd.R_nil _ _ _ _ _ | exact Kd.N_nil _ _ _ _ _ | exact Kd.V_nil _ _ _ _ _ | exact Kd.Q_nil _ _ _ _ _ | exact Kd.S_nil _ _ _ _ _, by repeat (first | (with_reducible first | exact HB.out | apply below_alloc | apply pw_below_drewN | apply below_drew1) | exact HB.out)⟩
    · rw [if_neg c5] at H
      have c5b0 : decide (a1 < 0) = false := decide_eq_false c5
      clear c5
      by_cases c7 : a1 ≥ (t175.length : Int)
      · rw [if_pos c7] at H
        have c7b0 : decide ((t175.length : Int) ≤ a1) = true := decide_eq_true c7
        clear c7
        simp only [Option.some.injEq, Prod.mk.injEq] at H
        obtain ⟨rfl, rfl⟩ := H
        go_enter Try.func24, Try.ntmps24
        go_wp2_with (first | ((with_reducible refine gate_callee (f := 27) rfl ?_); refine goesL_ (some 10) rfl rfl Try.func27 (by kernel_rfl) rfl #[.slice A0 l0.length c0] rfl (by (try simp only [List.map_toArray, List.map_cons, List.map_nil]); first | done | rfl | (simp only [List.length_drop, List.length_take]; rfl)) ?_; (with_reducible refine (longstopref12_read.calls _ _ l0 t175 true _ ?side1 ?side2 A3.out).mono ?_); (case side1 => repeat (first | exact HR0.out | (with_reducible refine Kd.C_alloc ?_ _) | (with_reducible refine Kd.C_drewN ?_ _) | (with_reducible refine Kd.C_drew ?_))); (case side2 => exact HC0.out); rintro e w8 ⟨v177, rfl, ho0, hb⟩; refine ⟨_, rfl, ?_⟩; have n0_ := Aside0.mk (Kd.S_lower ho0 (below_size (by repeat (first | (with_reducible first | exact HB.out | apply below_alloc | apply pw_below_drewN | apply below_drew1) | exact HB.out)))); have n1_ := Aside0.mk (below_step (by repeat (first | (with_reducible first | exact HB.out | apply below_alloc | apply pw_below_drewN | apply below_drew1) | exact HB.out)) hb); clear HB; have HO178 := n0_; have HB := n1_; clear n0_ n1_; (try clear hb); (try clear hb2); (try clear hk); (try clear hi); (try clear ho0); obtain ⟨Ao9, co9, eo9⟩ := Kd.S_slice HO178.out; subst eo9))
        go_ret2
        exact ⟨_, by first | rfl | (simp [errW_none, errW_some] <;> rfl) | (simp [*, errW_none, errW_some] <;> rfl), by first | exact Kd.R_nil _ _ _ _ _ | exact Kd.N_nil _ _ _ _ _ | exact Kd.V_nil _ _ _ _ _ | exact Kd.Q_nil _ _ _ _ _ | exact Kd.S_nil _ _ _ _ _, by repeat (first | (with_reducible first | exact HB.out | apply below_alloc | apply pw_below_drewN | apply below_drew1) | exact HB.out)⟩
      · rw [if_neg c7] at H
        have c7b0 : decide ((t175.length : Int) ≤ a1) = false := decide_eq_false c7
        clear c7
        by_cases c10 : 0 ≤ a1
        · rw [if_pos c10] at H
          have c10b0 : decide (0 ≤ a1) = true := decide_eq_true c10
          clear c10
          by_cases c11 : a1 < (t175.length : Int)
          · rw [if_pos c11] at H
            have c11b0 : decide (a1 < (t175.length : Int)) = true := decide_eq_true c11
            clear c11
            obtain ⟨bq12, hbq12⟩ : ∃ b_ : Bool, b_ = ((rd_T59 t175 a1).f1) := ⟨_, rfl⟩
            replace H : (if (bq12 = true) then ((longstopref12_write.f (t175.set (a1 : Int).toNat (⟨([] : List Int), false⟩ : S59))).bind fun t181 => (some (t181, 0))) else (some (([] : List Int), 3))) = some (r1, r2) := by rw [← hbq12] at H; exact H
            have Nbq12 := Aside0.mk hbq12
            clear hbq12
            by_cases c13 : (bq12 = true)
            · subst c13
              have H1 : ((longstopref12_write.f (t175.set (a1 : Int).toNat (⟨([] : List Int), false⟩ : S59))).bind fun t181 => (some (t181, 0))) = some (r1, r2) := by rw [if_pos rfl] at H; exact H
              clear H
              have H := H1
              clear H1
              obtain ⟨y180, hy180⟩ : ∃ y_ : List (S59), y_ = (t175.set (a1 : Int).toNat (⟨([] : List Int), false⟩ : S59)) := ⟨_, rfl⟩
              replace H : ((longstopref12_write.f y180).bind fun t181 => (some (t181, 0))) = some (r1, r2) := by first | (rw [hy180]; with_reducible exact H) | (have H2_ := (Option.bind_some _ _).symm.trans H; rw [hy180]; with_reducible exact H2_) | (have H2_ := (Option.bind_some _ _).symm.trans H; with_reducible exact H2_) | with_reducible exact H | (rw [hy180]; exact H) | exact H
              have Ny180 := Aside0.mk hy180
              clear hy180
              replace H := Option.bind_eq_some_iff.mp H
              obtain ⟨t181, A150, H⟩ := H
              replace H : (some (t181, 0)) = some (r1, r2) := H
              have A15 := Aside0.mk A150
              clear A150
              simp only [Option.some.injEq, Prod.mk.injEq] at H
              obtain ⟨rfl, rfl⟩ := H
              go_enter Try.func24, Try.ntmps24
              go_wp2_with (first | ((with_reducible refine gate_callee (f := 27) rfl ?_); refine goesL_ (some 10) rfl rfl Try.func27 (by kernel_rfl) rfl #[.slice A0 l0.length c0] rfl (by (try simp only [List.map_toArray, List.map_cons, List.map_nil]); first | done | rfl | (simp only [List.length_drop, List.length_take]; rfl)) ?_; (with_reducible refine (longstopref12_read.calls _ _ l0 t175 true _ ?side1 ?side2 A3.out).mono ?_); (case side1 => repeat (first | exact HR0.out | (with_reducible refine Kd.C_alloc ?_ _) | (with_reducible refine Kd.C_drewN ?_ _) | (with_reducible refine Kd.C_drew ?_))); (case side2 => exact HC0.out); rintro e w16 ⟨v177, rfl, ho0, hb⟩; refine ⟨_, rfl, ?_⟩; have n0_ := Aside0.mk (Kd.S_lower ho0 (below_size (by repeat (first | (with_reducible first | exact HB.out | apply below_alloc | apply pw_below_drewN | apply below_drew1) | exact HB.out)))); have n1_ := Aside0.mk (below_step (by repeat (first | (with_reducible first | exact HB.out | apply below_alloc | apply pw_below_drewN | apply below_drew1) | exact HB.out)) hb); clear HB; have HO178 := n0_; have HB := n1_; clear n0_ n1_; (try clear hb); (try clear hb2); (try clear hk); (try clear hi); (try clear ho0); obtain ⟨Ao17, co17, eo17⟩ := Kd.S_slice HO178.out; subst eo17; have p179 : 0 ≤ (a1 : Int) := of_decide_eq_true (by first | (with_reducible assumption) | assumption); have q179 : a1 < (t175.length : Int) := of_decide_eq_true (by first | (with_reducible assumption) | assumption); obtain ⟨ad179, A179_0, c179_0, e179, hx179_0, hx179_1, hl179_0, hi179_0⟩ := at_T59 (Kd.S_reads' HO178.out).2.2 a1 p179 q179; (try rw [← Nbq12.out] at hx179_1); cases e179; obtain ⟨ce179, hce179, hMe179, hcc179⟩ := Kd.S_get HO178.out z59 a1 p179 (by first | exact q179 | exact of_decide_eq_true (by first | (with_reducible assumption) | assumption) | (have e_ := (Kd.S_reads' HO178.out).1; omega)); obtain ⟨ve179_0, rfl, ge179_0⟩ := k59_openM hMe179; have hv179_0 := hcc179 0 _ rfl; rw [Nat.add_zero] at hv179_0; replace hv179_0 := Option.some.inj (hv179_0.symm.trans hx179_0); rw [hv179_0] at ge179_0; have HL179_0 := Aside0.mk (show Kd.R (Kd.int .u8) 5 _ _ _ _ ((rd_T59 t175 a1).f0) from ge179_0); clear hv179_0 ge179_0; clear hcc179 hce179; have HR179_0 := Aside0.mk hi179_0; have HC179_0 := Aside0.mk hl179_0; clear hi179_0 hl179_0; replace p179 := eq_true p179; replace q179 := eq_true q179; have p14 : 0 ≤ (a1 : Int) := of_decide_eq_true (by first | (with_reducible assumption) | assumption); have q14 : (a1 : Int) < ((t175.length : Int) : Int) := of_decide_eq_true (by first | (with_reducible assumption) | assumption); obtain ⟨go14, co14, eo14, gb14, gl14, cl14, HG14⟩ := Kd.S_form HO178.out (by omega); (first | cases eo14 | (injection eo14 with ea_ en_ ec_; (first | subst ea_ | (injection ea_ with ea_; subst ea_)); subst ec_; clear en_)); have GB14 := Aside0.mk gb14; have GG14 := Aside0.mk HG14; clear gb14 gl14 HG14; (first | simp only [add_plain] at hx179_0 | skip); (first | simp only [add_plain] at hx179_1 | skip); obtain ⟨_, ce14, hcl14, hM14, hcc14, hfr14, _, _⟩ := Kd.S_elem HO178.out z59 (a1 : Int) p14 q14; obtain ⟨ve14_0, rfl, ge14_0⟩ := k59_openM hM14; have hx14_0 : w16.cell? ⟨go14, (a1 : Int).toNat * 2, none⟩ = some (ve14_0) := hcc14 0 _ rfl; have hx14_1 : w16.cell? ⟨go14, (a1 : Int).toNat * 2 + 1, none⟩ = some (.bool ((rd_T59 t175 a1).f1)) := hcc14 1 _ rfl; have hf14_0 : w16.frozen? ⟨go14, (a1 : Int).toNat * 2, none⟩ = false := hfr14 0; have hf14_1 : w16.frozen? ⟨go14, (a1 : Int).toNat * 2 + 1, none⟩ = false := hfr14 1; clear hcl14 hcc14 hfr14 hM14; replace p14 := eq_true p14; replace q14 := eq_true q14; have HX18 := Aside0.mk (show Kd.S k59 59 w16 w.heap.size (fun k_ => ((fun _ => True)) k_ ∧ ¬ ((fun _ => False)) k_) (.slice (some ⟨go14, 0, none⟩) t175.length co17) t175 from (by (with_reducible repeat (first | apply Kd.S_alloc | apply Kd.S_drewN | apply Kd.S_drew)); exact Kd.S_mono HO178.out (fun k_ hk => ⟨trivial, fun e_ => e_⟩))); obtain ⟨oki18, ce18, hcl18, hM18, hcc18, hfr18, hoki18, hH18⟩ := Kd.S_elem HX18.out z59 (a1 : Int) (of_decide_eq_true (by first | (with_reducible assumption) | assumption)) (by have h_ : (a1 : Int) < ((t175.length : Int) : Int) := of_decide_eq_true (by first | (with_reducible assumption) | assumption); first | exact h_ | (have e_ := (Kd.S_reads' HO178.out).1; omega) | simpa using h_); obtain ⟨ve18_0, rfl, ge18_0⟩ := k59_openM hM18; have HP18 := Kd.S_seg hH18 (of_decide_eq_true (by first | (with_reducible assumption) | assumption)) (by have h_ : (a1 : Int) < ((t175.length : Int) : Int) := of_decide_eq_true (by first | (with_reducible assumption) | assumption); first | exact h_ | (have e_ := (Kd.S_reads' HO178.out).1; omega) | simpa using h_) (seg := [.slice none 0 0, .bool false]) (j := 0) (show 2 ≤ 2 from by decide) (x' := (⟨([] : List Int), false⟩ : S59)) (k59_mkM _ _ _ (⟨([] : List Int), false⟩ : S59) (Kd.R_nil _ _ _ _ _)) (fun _ hk => hk) (fun k_ hk_ => hk_.elim); have hx18_0 := hcc18 0 _ rfl; (try simp only [show (k59).sz = 2 from rfl, Nat.mul_one, Nat.add_zero] at hx18_0); have hf18_0 := hfr18 0; (try simp only [show (k59).sz = 2 from rfl, Nat.mul_one, Nat.add_zero] at hf18_0); have hx18_1 := hcc18 1 _ rfl; (try simp only [show (k59).sz = 2 from rfl, Nat.mul_one, Nat.add_zero] at hx18_1); have hf18_1 := hfr18 1; (try simp only [show (k59).sz = 2 from rfl, Nat.mul_one, Nat.add_zero] at hf18_1); clear hcl18 hcc18 hfr18 hM18 hoki18 hH18) | ((with_reducible refine gate_store (t := 59) (p := 34) rfl ?_); refine store_event (t := 59) (p := 34) (v := ?vo_w19) (w1 := ((w16.setCell ⟨go14, (a1 : Int).toNat * 2, none⟩ (.slice none 0 0)).setCell ⟨go14, (a1 : Int).toNat * 2 + 1, none⟩ (.bool false))) ?hg ?ho ?hn ?hr ?_; (case ho => rfl); (case hg => rfl); (case hn => rfl); (case hr => first | (go_simp; done) | (go_simp; rfl)); intro w19 hw; have hg : w16.grownBy w19 (some go14) := (by rw [hw]; exact HP18.2); have hp_ : Kd.S k59 59 w19 w.heap.size (fun _ => True) (.slice (some ⟨go14, 0, none⟩) t175.length co17) y180 := (by rw [hw, Ny180.out]; exact HP18.1); clear HP18; have n0_ := Aside0.mk (hp_); have n1_ := Aside0.mk (Kd.R_after (v := (.slice (some ⟨go14, 0, none⟩) t175.length co17)) (v1 := (.slice (some ⟨go14, 0, none⟩) t175.length co17)) (ok := (fun _ => True)) (by (with_reducible repeat (first | apply Kd.R_alloc | apply Kd.R_drewN | apply Kd.R_drew)); exact HL179_0.out) hg (.inl rfl)); have n2_ := Aside0.mk ((by rw [hw]; exact below_set (below_set (HB.out) GB14.out) GB14.out : Below w.heap.size w w19)); clear HO178; clear HL179_0; clear HB; have HO178 := n0_; have HL179_0 := n1_; have HB := n2_; clear n0_ n1_ n2_; clear hg hw hp_) | ((with_reducible refine gate_callee (f := 31) rfl ?_); refine goesL_ (some 36) rfl rfl Try.func31 (by kernel_rfl) rfl #[.slice (some ⟨go14, 0, none⟩) y180.length co17] rfl (by (try simp only [List.map_toArray, List.map_cons, List.map_nil]); first | done | (rw [show y180.length = t175.length from (Kd.S_reads' HO178.out).1.symm] <;> rfl) | rfl | (simp only [List.length_drop, List.length_take]; rfl)) ?_; (with_reducible refine (longstopref12_write.calls _ _ y180 t181 _ ?side1 ?side2 A15.out).mono ?_); (case side1 => repeat (first | exact (Kd.S_reads' HO178.out).2.2 | (with_reducible refine Kd.C_alloc ?_ _) | (with_reducible refine Kd.C_drewN ?_ _) | (with_reducible refine Kd.C_drew ?_))); (case side2 => rw [show y180.length = t175.length from (Kd.S_reads' HO178.out).1.symm]; exact (Kd.S_reads' HO178.out).2.1); rintro e w20 ⟨v182, rfl, ho0, hb⟩; refine ⟨_, rfl, ?_⟩; have n0_ := Aside0.mk (Kd.S_elder' (by (with_reducible repeat (first | apply Kd.S_alloc | apply Kd.S_drewN | apply Kd.S_drew)); exact HO178.out) (Kd.R_base ho0) hb); have n1_ := Aside0.mk (Kd.R_elder' (by (with_reducible repeat (first | apply Kd.R_alloc | apply Kd.R_drewN | apply Kd.R_drew)); exact HL179_0.out) (Kd.R_base ho0) hb); have n2_ := Aside0.mk (Kd.R_lower (Kd.R_new' ho0 (Kd.R_lt (by (with_reducible repeat (first | apply Kd.R_alloc | apply Kd.R_drewN | apply Kd.R_drew)); exact HL179_0.out))) (below_size (by repeat (first | (with_reducible first | exact HB.out | apply below_alloc | apply pw_below_drewN | apply below_drew1) | exact HB.out)))); have n3_ := Aside0.mk (below_step (by repeat (first | (with_reducible first | exact HB.out | apply below_alloc | apply pw_below_drewN | apply below_drew1) | exact HB.out)) hb); clear HO178; clear HL179_0; clear HB; have HO178 := n0_; have HL179_0 := n1_; have HO183 := n2_; have HB := n3_; clear n0_ n1_ n2_ n3_; (try clear hb); (try clear hb2); (try clear hk); (try clear hi); (try clear ho0)))
              go_ret2
              exact ⟨_, by first | rfl | (simp [errW_none, errW_some] <;> rfl) | (simp [*, errW_none, errW_some] <;> rfl), by (with_reducible repeat (first | apply Kd.R_alloc | apply Kd.R_drewN | apply Kd.R_drew)); exact Kd.R_mono HO183.out (fun _ hk => trivial), by repeat (first | (with_reducible first | exact HB.out | apply below_alloc | apply pw_below_drewN | apply below_drew1) | exact HB.out)⟩
            · replace c13 := Bool.eq_false_iff.mpr c13
              subst c13
              have H1 : (some (([] : List Int), 3)) = some (r1, r2) := by rw [if_neg (show ¬ (false = true) by decide)] at H; exact H
              clear H
              have H := H1
              clear H1
              simp only [Option.some.injEq, Prod.mk.injEq] at H
              obtain ⟨rfl, rfl⟩ := H
              go_enter Try.func24, Try.ntmps24
              go_wp2_with (first | ((with_reducible refine gate_callee (f := 27) rfl ?_); refine goesL_ (some 10) rfl rfl Try.func27 (by kernel_rfl) rfl #[.slice A0 l0.length c0] rfl (by (try simp only [List.map_toArray, List.map_cons, List.map_nil]); first | done | rfl | (simp only [List.length_drop, List.length_take]; rfl)) ?_; (with_reducible refine (longstopref12_read.calls _ _ l0 t175 true _ ?side1 ?side2 A3.out).mono ?_); (case side1 => repeat (first | exact HR0.out | (with_reducible refine Kd.C_alloc ?_ _) | (with_reducible refine Kd.C_drewN ?_ _) | (with_reducible refine Kd.C_drew ?_))); (case side2 => exact HC0.out); rintro e w21 ⟨v177, rfl, ho0, hb⟩; refine ⟨_, rfl, ?_⟩; have n0_ := Aside0.mk (Kd.S_lower ho0 (below_size (by repeat (first | (with_reducible first | exact HB.out | apply below_alloc | apply pw_below_drewN | apply below_drew1) | exact HB.out)))); have n1_ := Aside0.mk (below_step (by repeat (first | (with_reducible first | exact HB.out | apply below_alloc | apply pw_below_drewN | apply below_drew1) | exact HB.out)) hb); clear HB; have HO178 := n0_; have HB := n1_; clear n0_ n1_; (try clear hb); (try clear hb2); (try clear hk); (try clear hi); (try clear ho0); obtain ⟨Ao22, co22, eo22⟩ := Kd.S_slice HO178.out; subst eo22; have p179 : 0 ≤ (a1 : Int) := of_decide_eq_true (by first | (with_reducible assumption) | assumption); have q179 : a1 < (t175.length : Int) := of_decide_eq_true (by first | (with_reducible assumption) | assumption); obtain ⟨ad179, A179_0, c179_0, e179, hx179_0, hx179_1, hl179_0, hi179_0⟩ := at_T59 (Kd.S_reads' HO178.out).2.2 a1 p179 q179; (try rw [← Nbq12.out] at hx179_1); cases e179; obtain ⟨ce179, hce179, hMe179, hcc179⟩ := Kd.S_get HO178.out z59 a1 p179 (by first | exact q179 | exact of_decide_eq_true (by first | (with_reducible assumption) | assumption) | (have e_ := (Kd.S_reads' HO178.out).1; omega)); obtain ⟨ve179_0, rfl, ge179_0⟩ := k59_openM hMe179; have hv179_0 := hcc179 0 _ rfl; rw [Nat.add_zero] at hv179_0; replace hv179_0 := Option.some.inj (hv179_0.symm.trans hx179_0); rw [hv179_0] at ge179_0; have HL179_0 := Aside0.mk (show Kd.R (Kd.int .u8) 5 _ _ _ _ ((rd_T59 t175 a1).f0) from ge179_0); clear hv179_0 ge179_0; clear hcc179 hce179; have HR179_0 := Aside0.mk hi179_0; have HC179_0 := Aside0.mk hl179_0; clear hi179_0 hl179_0; replace p179 := eq_true p179; replace q179 := eq_true q179))
              go_ret2
              exact ⟨_, by first | rfl | (simp [errW_none, errW_some] <;> rfl) | (simp [*, errW_none, errW_some] <;> rfl), by first | exact Kd.R_nil _ _ _ _ _ | exact Kd.N_nil _ _ _ _ _ | exact Kd.V_nil _ _ _ _ _ | exact Kd.Q_nil _ _ _ _ _ | exact Kd.S_nil _ _ _ _ _, by repeat (first | (with_reducible first | exact HB.out | apply below_alloc | apply pw_below_drewN | apply below_drew1) | exact HB.out)⟩
          · rw [if_neg c11] at H
            exact absurd H (by simp)
        · rw [if_neg c10] at H
          exact absurd H (by simp)
  · replace c4 := Bool.eq_false_iff.mpr c4
    subst c4
    have H1 : (some (([] : List Int), 21)) = some (r1, r2) := by rw [if_neg (show ¬ (false = true) by decide)] at H; exact H
    clear H
    have H := H1
    clear H1
    simp only [Option.some.injEq, Prod.mk.injEq] at H
    obtain ⟨rfl, rfl⟩ := H
    go_enter Try.func24, Try.ntmps24
    go_wp2_with (first | ((with_reducible refine gate_callee (f := 27) rfl ?_); refine goesL_ (some 10) rfl rfl Try.func27 (by kernel_rfl) rfl #[.slice A0 l0.length c0] rfl (by (try simp only [List.map_toArray, List.map_cons, List.map_nil]); first | done | rfl | (simp only [List.length_drop, List.length_take]; rfl)) ?_; (with_reducible refine (longstopref12_read.calls _ _ l0 t175 false _ ?side1 ?side2 A3.out).mono ?_); (case side1 => repeat (first | exact HR0.out | (with_reducible refine Kd.C_alloc ?_ _) | (with_reducible refine Kd.C_drewN ?_ _) | (with_reducible refine Kd.C_drew ?_))); (case side2 => exact HC0.out); rintro e w23 ⟨v177, rfl, ho0, hb⟩; refine ⟨_, rfl, ?_⟩; have n0_ := Aside0.mk (Kd.S_lower ho0 (below_size (by repeat (first | (with_reducible first | exact HB.out | apply below_alloc | apply pw_below_drewN | apply below_drew1) | exact HB.out)))); have n1_ := Aside0.mk (below_step (by repeat (first | (with_reducible first | exact HB.out | apply below_alloc | apply pw_below_drewN | apply below_drew1) | exact HB.out)) hb); clear HB; have HO178 := n0_; have HB := n1_; clear n0_ n1_; (try clear hb); (try clear hb2); (try clear hk); (try clear hi); (try clear ho0)))
    go_ret2
    exact ⟨_, by first | rfl | (simp [errW_none, errW_some] <;> rfl) | (simp [*, errW_none, errW_some] <;> rfl), by first | exact Kd.R_nil _ _ _ _ _ | exact Kd.N_nil _ _ _ _ _ | exact Kd.V_nil _ _ _ _ _ | exact Kd.Q_nil _ _ _ _ _ | exact Kd.S_nil _ _ _ _ _, by repeat (first | (with_reducible first | exact HB.out | apply below_alloc | apply pw_below_drewN | apply below_drew1) | exact HB.out)⟩


end Go.Proofs.Ytbffeibcndbmgaa.GRef
