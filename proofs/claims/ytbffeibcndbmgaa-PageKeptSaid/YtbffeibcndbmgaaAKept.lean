/- A part of the proofs about pages: what this claim needs beyond the parts that the seat's claims share; its conditions stand in each lemma. -/
import Derived.Test.YtbffeibcndbmgaaALooks
import Derived.Maps.OwnSet
import Derived.Maps.StringElems
import Derived.Carry
import Derived.Laws.IdiomStrings
import Derived.Test.YtbffeibcndbmgaaWWords
import Derived.ChangeArms
import Derived.DataReads
import Derived.SizedLaws
set_option linter.unusedVariables false
set_option linter.unusedSimpArgs false

/-! ## Kept -/
set_option linter.unusedVariables false
set_option linter.unusedSimpArgs false
namespace Go.Proofs.Ytbffeibcndbmgaa.Pg
open Go.RowKit Go.Proofs.YtbffeibcndbmgaaW.PrintWords Go.Proofs.YtbffeibcndbmgaaW.PrintLast Go.Proofs.YtbffeibcndbmgaaW.PrintMore

/-- the record in slot k, of any number. -/
def slotAt (s : Slots) (k : Int) : Option (List Int) := if 0 ≤ k then s.getD k.toNat none else none
structure Good (P : List Int) (s : Slots) : Prop where
  b : Bytes P
  r : readL P = some s

theorem trim_getD (s : Slots) (k : Nat) : (trim s).getD k none = s.getD k none := by
  induction s generalizing k with
  | nil => rfl
  | cons x l ih =>
    cases ht : trim l with
    | nil =>
      have h0 : ∀ j, l.getD j none = none := fun j => by rw [← ih j, ht]; simp
      cases x with
      | none =>
        have e : trim (none :: l) = [] := by simp [trim, ht]
        rw [e]
        cases k with
        | zero => rfl
        | succ k =>
          have := h0 k
          simp [List.getD_eq_getElem?_getD] at this ⊢
          exact this.symm
      | some r =>
        have e : trim (some r :: l) = [some r] := by simp [trim, ht]
        rw [e]
        cases k with
        | zero => rfl
        | succ k =>
          have := h0 k
          simp [List.getD_eq_getElem?_getD] at this ⊢
          exact this.symm
    | cons y m =>
      have e : trim (x :: l) = x :: y :: m := by simp [trim, ht]
      rw [e, ← ht]
      cases k with
      | zero => rfl
      | succ k =>
        have := ih k
        simpa [List.getD_eq_getElem?_getD] using this
theorem slotAt_trim (s : Slots) (k : Int) : slotAt (trim s) k = slotAt s k := by
  unfold slotAt
  rw [trim_getD]
theorem slotAt_grow (s : Slots) (k : Int) : slotAt (grow s) k = slotAt s k := by
  unfold slotAt grow
  split
  · split
    · rfl
    · by_cases h : k.toNat < s.length
      · rw [List.getD_eq_getElem?_getD, List.getD_eq_getElem?_getD, List.getElem?_append_left h]
      · rw [List.getD_eq_getElem?_getD, List.getD_eq_getElem?_getD, List.getElem?_append_right (by omega), List.getElem?_eq_none (show s.length ≤ k.toNat by omega)]
        cases hx : ([none] : Slots)[k.toNat - s.length]? with
        | none => rfl
        | some y =>
          have := List.mem_of_getElem? hx
          simp at this
          rw [this]
          rfl
  · rfl
theorem slotAt_set (s : Slots) (i : Nat) (x : Option (List Int)) (hi : i < s.length) (k : Int) : slotAt (s.set i x) k = if k = (i : Int) then x else slotAt s k := by
  unfold slotAt
  by_cases h0 : 0 ≤ k
  · obtain ⟨j, rfl⟩ := Int.eq_ofNat_of_zero_le h0
    rw [if_pos h0, if_pos h0, Int.toNat_natCast]
    by_cases h : j = i
    · subst h
      rw [if_pos rfl, List.getD_eq_getElem?_getD, List.getElem?_set_self hi]
      rfl
    · rw [if_neg (by omega), List.getD_eq_getElem?_getD, List.getElem?_set_ne (by omega), List.getD_eq_getElem?_getD]
  · rw [if_neg h0, if_neg h0, if_neg (by omega)]
theorem slotAt_nat (s : Slots) (j : Nat) : slotAt s (j : Int) = s.getD j none := by
  unfold slotAt
  rw [if_pos (by omega), Int.toNat_natCast]
theorem slotAt_lt {s : Slots} {k : Int} {r : List Int} (h : slotAt s k = some r) : ∃ j : Nat, k = (j : Int) ∧ j < s.length ∧ s.getD j none = some r := by
  unfold slotAt at h
  split at h
  · rename_i h0
    obtain ⟨j, rfl⟩ := Int.eq_ofNat_of_zero_le h0
    rw [Int.toNat_natCast] at h
    refine ⟨j, rfl, ?_, h⟩
    by_cases hj : j < s.length
    · exact hj
    · rw [List.getD_eq_getElem?_getD, List.getElem?_eq_none (by omega)] at h
      cases h
  · cases h

theorem good_page {s : Slots} (hf : Fits s) (hb : ∀ r, some r ∈ s → Bytes r) : Good (pageL s) (trim s) := ⟨bytes_page hb, read_back s hf (bytes_page hb)⟩
theorem good_new : Good (pageL []) [] := ⟨byts0, read0⟩
theorem good_get {P : List Int} {s : Slots} (h : Good P s) (k : Int) : getL P k = slotAt s k := by
  unfold getL slotAt
  rw [h.r]
  rfl
theorem good_len {P : List Int} {s : Slots} (h : Good P s) : s.length ≤ 125 ∧ sizes s ≤ 504 ∧ P.length = 512 := by
  obtain ⟨hl, hf, _, _, h5⟩ := readL_some h.b h.r
  unfold Fits at hf
  exact ⟨h5, by omega, hl⟩
theorem good_slots {P : List Int} {s : Slots} (h : Good P s) : slotsL P = (s.length : Int) := by
  unfold slotsL
  rw [h.r]
  rfl
theorem good_room {P : List Int} {s : Slots} (h : Good P s) : roomP P = 502 - 4 * (s.length : Int) - sizes s := by
  unfold roomP
  rw [h.r]
  rfl
theorem good_right {P : List Int} {s : Slots} (h : Good P s) : rightL P = true := by
  unfold rightL
  rw [h.r]
  rfl

/-- s' is s, but for x in slot i. -/
def Turned (s s' : Slots) (i : Int) (x : Option (List Int)) : Prop := ∀ k, slotAt s' k = if k = i then x else slotAt s k

theorem ins_good {P b : List Int} {s : Slots} (h : Good P s) (hb : Bytes b) : insertL P b = ([], 0, 7) ∨ ∃ (at_ : Nat) (P' : List Int) (s' : Slots), insertL P b = (P', (at_ : Int), 0) ∧ Good P' s' ∧ at_ ≤ 125 ∧ slotAt s (at_ : Int) = none ∧ Turned s s' (at_ : Int) (some b) ∧ b.length ≤ 504 := by
  obtain ⟨_, hf, hs, _, hl⟩ := readL_some h.b h.r
  rw [insertL_some h.r]
  by_cases hbig : (b.length : Int) > roomL (grow s)
  · rw [if_pos hbig]
    exact .inl rfl
  · rw [if_neg hbig]
    have hg := grow_length s
    have hfr := free_le s
    refine .inr ⟨free s, _, _, rfl, good_page (put_fits hg.1 (grow_none s) (by omega)) (byts_put (fun q hq => hs q (grow_mem hq)) hb), by omega, ?_, ?_, ?_⟩
    · have := slotAt_grow s (free s : Int)
      rw [← this, slotAt_nat]
      exact grow_none s
    · intro k
      rw [slotAt_trim, slotAt_set _ _ _ hg.1, slotAt_grow]
    · unfold roomL at hbig
      omega

theorem upd_none {P b : List Int} {s : Slots} {i : Int} (h : Good P s) (hi : slotAt s i = none) : updateL P i b = ([], 3) := by
  unfold updateL
  rw [h.r]
  simp only
  rw [if_pos]
  by_cases h0 : i < 0
  · exact badAt_low h0
  · obtain ⟨j, rfl⟩ := Int.eq_ofNat_of_zero_le (show 0 ≤ i by omega)
    by_cases h1 : (j : Int) ≥ (s.length : Int)
    · exact badAt_high h1
    · rw [badAt_false (by omega), ← slotAt_nat, hi]
      rfl
theorem del_none {P : List Int} {s : Slots} {i : Int} (h : Good P s) (hi : slotAt s i = none) : deleteL P i = ([], 3) := by
  unfold deleteL
  rw [h.r]
  simp only
  rw [if_pos]
  by_cases h0 : i < 0
  · exact badAt_low h0
  · obtain ⟨j, rfl⟩ := Int.eq_ofNat_of_zero_le (show 0 ≤ i by omega)
    by_cases h1 : (j : Int) ≥ (s.length : Int)
    · exact badAt_high h1
    · rw [badAt_false (by omega), ← slotAt_nat, hi]
      rfl
theorem fits_gone {s : Slots} (h : Fits s) (j : Nat) : Fits (s.set j none) := by
  have := sizes_gone s j
  unfold Fits at *
  rw [List.length_set]
  omega
theorem upd_some {P b q : List Int} {s : Slots} {i : Int} (h : Good P s) (hb : Bytes b) (hi : slotAt s i = some q) : updateL P i b = ([], 7) ∨ ∃ (P' : List Int) (s' : Slots), updateL P i b = (P', 0) ∧ Good P' s' ∧ Turned s s' i (some b) ∧ b.length ≤ 504 := by
  obtain ⟨_, hf, hs, _, hl⟩ := readL_some h.b h.r
  obtain ⟨j, rfl, hj, hx⟩ := slotAt_lt hi
  unfold updateL
  rw [h.r]
  simp only
  rw [badAt_false hj, hx, Int.toNat_natCast, if_neg (by simp)]
  have hj2 : j < (s.set j none).length := by rw [List.length_set]; exact hj
  by_cases hbig : (b.length : Int) > roomL (s.set j none)
  · rw [if_pos hbig]
    exact .inl rfl
  · rw [if_neg hbig]
    refine .inr ⟨_, _, rfl, good_page (put_fits hj2 (set_none s j) (by omega)) (byts_put (byts_gone hs) hb), ?_, ?_⟩
    · intro k
      rw [slotAt_trim, slotAt_set _ _ _ hj2, slotAt_set _ _ _ hj]
      by_cases hk : k = (j : Int)
      · rw [if_pos hk, if_pos hk]
      · rw [if_neg hk, if_neg hk, if_neg hk]
    · unfold roomL at hbig
      omega
theorem del_some {P q : List Int} {s : Slots} {i : Int} (h : Good P s) (hi : slotAt s i = some q) : ∃ (P' : List Int) (s' : Slots), deleteL P i = (P', 0) ∧ Good P' s' ∧ Turned s s' i none := by
  obtain ⟨_, hf, hs, _, hl⟩ := readL_some h.b h.r
  obtain ⟨j, rfl, hj, hx⟩ := slotAt_lt hi
  unfold deleteL
  rw [h.r]
  simp only
  rw [badAt_false hj, hx, Int.toNat_natCast, if_neg (by simp)]
  refine ⟨_, _, rfl, good_page (fits_gone hf j) (byts_gone hs), ?_⟩
  intro k
  rw [slotAt_trim, slotAt_set _ _ _ hj]

/-- what is used by the first k slots. -/
theorem used_step (s : Slots) (k : Nat) : sizes (s.take (k + 1)) = sizes (s.take k) + ((slotAt s (k : Int)).getD []).length := by
  rw [slotAt_nat]
  by_cases h : k < s.length
  · rw [take_snoc s k h, sizes_append]
    simp [sizes]
  · rw [List.take_of_length_le (by omega), List.take_of_length_le (by omega), List.getD_eq_getElem?_getD, List.getElem?_eq_none (by omega)]
    simp

end Go.Proofs.Ytbffeibcndbmgaa.Pg

/-! ## KeptMap -/
set_option linter.unusedVariables false
set_option linter.unusedSimpArgs false
namespace Go.Proofs.Ytbffeibcndbmgaa.Pg
open Go.RowKit Go.Maps Go.Proofs.YtbffeibcndbmgaaW.PrintWords Go.Proofs.YtbffeibcndbmgaaW.PrintLast Go.Proofs.YtbffeibcndbmgaaW.PrintMore

theorem keyLaw : Keyed Try.prog 3 := int_keyed Try.underlying3
theorem zeroStr (w : World) : (zeroValue 9).run Try.prog w = .ok (.string ByteArray.empty) w := by kernel_rfl
theorem mapTy : Try.prog.underlying 46 = some (.map 3 9) := by kernel_rfl

def dtxt (r : List Int) : DataW Unit := .lit (.string (strOfNums r).data.toList)
/-- the datum tells of each number what is in that slot. -/
def MapOf (D : DataW Unit) (s : Slots) : Prop := ∀ k : Int, has D (.int .i64 k) = (slotAt s k).isSome ∧ ∀ r, slotAt s k = some r → ∀ z, D.atKey (.int .i64 k) z = dtxt r
def Mp (w : World) (B n : Nat) (s : Slots) : Prop := ∃ D, w.ownsMap Try.prog 3 (plainElem Try.prog 9) B n D ∧ MapOf D s
def txt (o : Option (List Int)) : ByteArray := strOfNums (o.getD [])

theorem mp_made (w : World) : Mp (w.alloc (.map #[] 0)) w.heap.size 0 [] := by
  refine ⟨_, World.ownsMap_made w _ _ _, fun k => ⟨?_, fun r h => ?_⟩⟩
  · unfold slotAt
    split <;> rfl
  · unfold slotAt at h
    split at h <;> simp at h
theorem Mp.kept {w w' : World} {B n : Nat} {s : Slots} {row : Option Nat} (h : Mp w B n s) (hg : w.grownBy w' row) (hne : some B ≠ row) : Mp w' B n s := by
  obtain ⟨D, h1, h2⟩ := h
  exact ⟨D, h1.kept hg hne, h2⟩
theorem Mp.below {w w' : World} {B n : Nat} {s : Slots} (h : Mp w B n s) (hb : Below w.heap.size w w') : Mp w' B n s := h.kept (grown_of_below hb none) (by simp)
theorem Mp.mono {w : World} {B n n' : Nat} {s : Slots} (h : Mp w B n s) (hn : n ≤ n') : Mp w B n' s := by
  obtain ⟨D, h1, h2⟩ := h
  exact ⟨D, h1.mono hn, h2⟩
theorem Mp.lt {w : World} {B n : Nat} {s : Slots} (h : Mp w B n s) : B < w.heap.size := by
  obtain ⟨D, h1, h2⟩ := h
  exact h1.lt
theorem Mp.block {w : World} {B n : Nat} {s : Slots} (h : Mp w B n s) : ∃ es clock, w.heap[B]? = some (.map es clock) := by
  obtain ⟨D, ⟨es, clock, h1, _⟩, h2⟩ := h
  exact ⟨es, clock, h1⟩

theorem txt_inj {r : List Int} {v : Value} {ps : List MemPlace} (h : plainElem (H := Unit) Try.prog 9 v = some (dtxt r, ps)) : v = .string (strOfNums r) := by
  obtain ⟨s, rfl, hz, _⟩ := plainElem_string_inv Try.underlying9 h
  unfold dtxt at hz
  simp only [Prod.mk.injEq, DataW.lit.injEq, Lit.string.injEq] at hz
  have h1 : s.data = (strOfNums r).data := by
    apply Array.ext'
    exact hz.1.symm
  have h2 : s = strOfNums r := by
    cases s
    cases hq : strOfNums r
    rw [hq] at h1
    simp only at h1
    rw [h1]
  rw [h2]
/-- 't, is := want[k]'. -/
theorem Mp.look {w : World} {B n : Nat} {s : Slots} (h : Mp w B n s) (k : Int) (hk : (Lit.int .i64 k).wf = true) : (Instr.lookup 46 (.map (some B)) (.int .i64 k) true).run Try.prog w = .ok (.tuple #[.string (txt (slotAt s k)), .bool (slotAt s k).isSome]) w := by
  obtain ⟨D, h1, h2⟩ := h
  obtain ⟨h3, h4⟩ := h2 k
  obtain ⟨v, ps, hrun, hv⟩ := h1.look_ok keyLaw mapTy (zeroStr w) (plainElem_string Try.underlying9 (s := ByteArray.empty) (by decide)) (keyOf_int_mk Try.underlying3 hk)
  rw [hrun, h3]
  cases hs : slotAt s k with
  | some r =>
    rw [h4 r hs] at hv
    rw [txt_inj hv]
    rfl
  | none =>
    rw [hs] at h3
    rw [atKey_of_not_has h3] at hv
    have e : (DataW.lit (.string ByteArray.empty.data.toList) : DataW Unit) = dtxt [] := rfl
    rw [e] at hv
    rw [txt_inj hv]
    rfl

theorem strOfNums_len (r : List Int) : (strOfNums r).size = r.length := strOfNums_size r
theorem mapOf_put {D : DataW Unit} {s s' : Slots} {k : Int} {r : List Int} (hD : IsMap D) (h : MapOf D s) (ht : Turned s s' k (some r)) : MapOf (D.put (.int .i64 k) (dtxt r)) s' := by
  have hkl : WideAt.IsKeyLit (.int .i64 k) := by simp [WideAt.IsKeyLit]
  intro j
  by_cases hj : j = k
  · subst hj
    rw [ht j, if_pos rfl]
    refine ⟨has_put_same hD hkl _, fun q hq z => ?_⟩
    injection hq with hq
    subst hq
    exact atKey_put_same hD hkl _ z
  · have hne : (Lit.int .i64 j) ≠ (Lit.int .i64 k) := by
      intro e
      injection e with _ e
      exact hj e
    obtain ⟨h1, h2⟩ := h j
    rw [ht j, if_neg hj]
    exact ⟨(has_put_other hne _).trans h1, fun q hq z => (atKey_put_other hne _ z).trans (h2 q hq z)⟩
theorem mapOf_del {D : DataW Unit} {s s' : Slots} {k : Int} (h : MapOf D s) (ht : Turned s s' k none) : MapOf (D.del (.int .i64 k)) s' := by
  intro j
  by_cases hj : j = k
  · subst hj
    rw [ht j, if_pos rfl]
    exact ⟨has_del_same, fun q hq => by cases hq⟩
  · have hne : (Lit.int .i64 j) ≠ (Lit.int .i64 k) := by
      intro e
      injection e with _ e
      exact hj e
    obtain ⟨h1, h2⟩ := h j
    rw [ht j, if_neg hj]
    exact ⟨(has_del_other hne).trans h1, fun q hq z => (atKey_del_other hne z).trans (h2 q hq z)⟩

/-- 'want[k] = string(r)'. -/
theorem wpList_mp_put (w : World) {ops : Array Oper} {rest : List Oper} {o : Oper} {a : Act} {Q : Exit → Act → World → Prop} (hg : o.guard = none) (m x v : Operand) (hop : o.op = Op.mapUpdate 46 m x v) (B n : Nat) (s s' : Slots) (k : Int) (r : List Int)
    (hm : a.eval m = .map (some B)) (hx : a.eval x = .int .i64 k) (hv : a.eval v = .string (strOfNums r)) (h : Mp w B n s) (hn : n ≤ 1000) (hk : (Lit.int .i64 k).wf = true) (hr : r.length ≤ 100000) (ht : Turned s s' k (some r))
    (hK : ∀ w', Mp w' B (n + 1) s' → w.grownBy w' (some B) → wpList Try.prog ops Q rest (a.put o.dst undef) w') : wpList Try.prog ops Q (o :: rest) a w := by
  obtain ⟨D, h1, h2⟩ := h
  refine wpList_mapUpdate_own w hg m x v _ hop 3 9 keyLaw mapTy _ B n D hm h1 (by unfold maxLen; omega) _ _ _ hx hv (keyOf_int_mk Try.underlying3 hk) (dtxt r) [] (plainElem_string Try.underlying9 (by rw [strOfNums_len]; unfold maxLen; omega)) ?_
  intro w' h3 h4
  exact hK w' ⟨_, h3, mapOf_put h1.isMap h2 ht⟩ h4
/-- 'delete(want, k)'. -/
theorem wpList_mp_del (w : World) {ops : Array Oper} {rest : List Oper} {o : Oper} {a : Act} {Q : Exit → Act → World → Prop} (hg : o.guard = none) (m x : Operand) (hop : o.op = Op.call { callee := Callee.builtin Builtin.delete, args := #[m, x], argTypes := #[46, 3] }) (B n : Nat) (s s' : Slots) (k : Int)
    (hm : a.eval m = .map (some B)) (hx : a.eval x = .int .i64 k) (h : Mp w B n s) (hk : (Lit.int .i64 k).wf = true) (ht : Turned s s' k none)
    (hK : ∀ w', Mp w' B n s' → w.grownBy w' (some B) → wpList Try.prog ops Q rest (a.put o.dst (.tuple #[])) w') : wpList Try.prog ops Q (o :: rest) a w := by
  obtain ⟨D, h1, h2⟩ := h
  refine wpList_delete_own w hg m x _ _ hop 9 keyLaw mapTy _ B n D hm h1 _ _ hx (keyOf_int_mk Try.underlying3 hk) ?_
  intro w' h3 h4
  exact hK w' ⟨_, h3, mapOf_del h2 ht⟩ h4.grown

/-- bytes of one's own stay while the map is written. -/
theorem R_map {w w' : World} {base B : Nat} {v : Value} {xs : List Int} {n : Nat} {s : Slots} (h : Kd.R (Kd.int .u8) 5 w base (fun _ => True) v xs) (hm : Mp w B n s) (hg : w.grownBy w' (some B)) : Kd.R (Kd.int .u8) 5 w' base (fun _ => True) v xs := by
  obtain ⟨es, clock, hb⟩ := hm.block
  refine Kd.R_mono (Kd.R_grown (Kd.R_bound h) hg ?_) (fun _ _ => trivial)
  rintro k ⟨_, _, _, q, _, cells, hc⟩ e
  injection e with e
  subst e
  rw [hb] at hc
  cases hc

end Go.Proofs.Ytbffeibcndbmgaa.Pg

/-! ## KeptWalk -/
set_option linter.unusedVariables false
set_option linter.unusedSimpArgs false
namespace Go.Proofs.Ytbffeibcndbmgaa.Pg
open Go.RowKit Go.Proofs.YtbffeibcndbmgaaW.PrintWords Go.Proofs.YtbffeibcndbmgaaW.PrintLast Go.Proofs.YtbffeibcndbmgaaW.PrintMore Go.Proofs.Ytbffeibcndbmgaa.PPageSteps

/-- a step: its kind, its slot, its bytes. -/
abbrev kStep : Kd (Int × Int × List Int) := Kd.pair (Kd.int .i64) (Kd.pair (Kd.int .i64) (Kd.slice 5 (Kd.int .u8)))
theorem step_at {w : World} {A : Option Addr} {n : Nat} {xs : List (Int × Int × List Int)} (h : Kd.C kStep w A n xs) (i : Nat) (h1 : i < n) : ∃ ad k j b a c, A = some ad ∧ xs[i]? = some (k, j, b) ∧ w.cell? (ad.add (i * 3)) = some (.int .i64 k) ∧ w.cell? ⟨(ad.add (i * 3)).block, (ad.add (i * 3)).off + 1, none⟩ = some (.int .i64 j) ∧ w.cell? ⟨(ad.add (i * 3)).block, (ad.add (i * 3)).off + 2, none⟩ = some (.slice a b.length c) ∧ b.length ≤ c ∧ (Kd.int .u8).C w a b.length b := by
  obtain ⟨h2, _, h3⟩ := h
  obtain ⟨ad, rfl, hc⟩ := h3 (by omega)
  have hi : i < xs.length := by omega
  obtain ⟨c, hcl, hK, hcell⟩ := hc i (xs[i]) (List.getElem?_eq_getElem hi)
  obtain ⟨⟨k, j, b⟩, hx⟩ : ∃ x, x = xs[i] := ⟨_, rfl⟩
  rw [← hx] at hK
  obtain ⟨_, _, rfl, rfl, ⟨_, _, rfl, rfl, ⟨a, cb, rfl, l2, g2⟩⟩⟩ := hK
  have hcell : ∀ (q : Nat) (u : Value), ([.int .i64 k] ++ ([.int .i64 j] ++ [.slice a b.length cb]))[q]? = some u → w.cell? (ad.add (i * 3 + q)) = some u := hcell
  exact ⟨ad, k, j, b, a, cb, rfl, by rw [List.getElem?_eq_getElem hi, ← hx], hcell 0 _ rfl, by rw [← add_field _ _ 1 (by omega)]; exact hcell 1 _ rfl, by rw [← add_field _ _ 2 (by omega)]; exact hcell 2 _ rfl, l2, g2⟩

theorem cell_map {w w' : World} {B X q : Nat} {v : Value} (hg : w.grownBy w' (some B)) (h : w.cell? ⟨X, q, none⟩ = some v) (hne : X ≠ B) : w'.cell? ⟨X, q, none⟩ = some v := by
  have hlt : X < w.heap.size := World.block_lt_of_cell? w _ h
  have hb : w'.heap[X]? = w.heap[X]? := hg.block X hlt (by intro e; injection e with e; exact hne e)
  have e : w'.cell? ⟨X, q, none⟩ = w.cell? ⟨X, q, none⟩ := by simp [World.cell?, hb]
  rw [e]
  exact h
theorem boxed3 (w : World) (a b c : Value) (t : TypeId) : (w.alloc (.cells #[a, b, c] t)).cell? ⟨w.heap.size, 0, none⟩ = some a ∧ (w.alloc (.cells #[a, b, c] t)).cell? ⟨w.heap.size, 1, none⟩ = some b ∧ (w.alloc (.cells #[a, b, c] t)).cell? ⟨w.heap.size, 2, none⟩ = some c := ⟨World.cell?_alloc_mark w #[a, b, c] t (0, 0) 0, World.cell?_alloc_mark w #[a, b, c] t (0, 0) 1, World.cell?_alloc_mark w #[a, b, c] t (0, 0) 2⟩

set_option maxHeartbeats 8000000 in
set_option maxRecDepth 100000 in
theorem kept_any (w : World) (A0 : Option Addr) (c0 : Nat) (l : List (Int × Int × List Int)) (hl : Kd.C kStep w A0 l.length l) (hc0 : l.length ≤ c0) (hlb : ∀ (i : Nat) (k j : Int) (b : List Int), l[i]? = some (k, j, b) → Bytes b ∧ (Lit.int .i64 j).wf = true ∧ b.length ≤ 140737488351232) :
    Calls Try.prog 5 #[.slice A0 l.length c0] w fun e w' => e = .returned (.bool true) ∧ Below w.heap.size w w' := by
  have hu48 := Try.underlying48
  have hmx := hl.2.1
  have HL := Aside0.mk hl
  have HLB := Aside0.mk hlb
  obtain ⟨P0, hP0⟩ : ∃ x, pageL [] = x := ⟨_, rfl⟩
  have HP0 := Aside0.mk hP0
  have HG0 : Aside0 (Good P0 []) := ⟨by rw [← hP0]; exact good_new⟩
  have hmm := @run_makeMap Try.prog
  clear hl hlb hP0
  go_enter Try.func5, Try.ntmps5
  go_wp2_with (first
    | ((with_reducible refine gate_dst (N := 26) rfl ?_); refine goesL_ (some 26) rfl rfl Try.func15 (by kernel_rfl) rfl #[] rfl (by (try simp only [List.map_toArray, List.map_cons, List.map_nil]); first | done | rfl) ?_; (with_reducible refine (s_new HP0.out _).mono ?_); rintro e_ w1 ⟨v1, rfl, HO, HB1⟩; refine ⟨_, rfl, ?_⟩))
  have hB1 := HB1.out
  obtain ⟨A1, c1, hv1⟩ := Kd.R_slice HO.out
  subst hv1
  obtain ⟨B, hB⟩ : ∃ B, B = w1.heap.size := ⟨_, rfl⟩
  have HM0 := Aside0.mk (mp_made w1)
  have HWB : Aside0 (w.heap.size ≤ B) := ⟨by rw [hB]; exact hB1.size⟩
  rw [← hB] at HM0 ⊢
  clear hB hB1 hmm
  go_loopw [3, 6] (fun v3 v6 wr => ∃ (P : List Int) (s : Slots) (i : Nat) (AP : Option Addr) (cP : Nat), v3 = .slice AP P.length cP ∧ v6 = .int .i64 (i : Int) ∧ i ≤ 120 ∧ i ≤ l.length ∧ Aside0 (Good P s) ∧ Aside0 (Kd.R (Kd.int .u8) 5 wr w.heap.size (fun _ => True) (.slice AP P.length cP) P) ∧ Aside0 (Mp wr B i s) ∧ Aside0 (Below w.heap.size w wr)) (fun _ v6 _ => 120 - (intOf v6).toNat)
  case atStart => exact ⟨P0, [], 0, A1, c1, rfl, rfl, by omega, by omega, HG0, ⟨Kd.R_alloc HO.out _⟩, HM0, ⟨below_alloc HB1.out _⟩⟩
  case round =>
    clear HG0 HM0 HO HB1 HP0
    obtain ⟨P, s, i, AP, cP, rfl, rfl, hi1, hi2, HG, HO, HM, HB⟩ := hrel
    by_cases hlt : i < l.length ∧ i < 120
    · obtain ⟨hq1, hq2⟩ := hlt
      obtain ⟨ad0, kd, j, b, ab, cb, rfl, hx, y0, y1, y2, hcb, hCb⟩ := step_at HL.out i hq1
      obtain ⟨hbb, hwj, hlb⟩ := HLB.out i kd j b hx
      have z0 := pw_cell_below HB.out y0
      have z1 := pw_cell_below HB.out y1
      have z2 := pw_cell_below HB.out y2
      have HCB := Aside0.mk hCb
      have HBB := Aside0.mk hbb
      clear y0 y1 y2 hx hCb hbb
      have hlook := fun (o : Obj) => Mp.look (Mp.below HM.out (below_alloc (Below.refl _ _) o)) j hwj
      obtain ⟨tx, htx⟩ : ∃ x, txt (slotAt s j) = x := ⟨_, rfl⟩
      obtain ⟨bs, hbs⟩ : ∃ x, (slotAt s j).isSome = x := ⟨_, rfl⟩
      rw [htx, hbs] at hlook
      have HBS := Aside0.mk hbs
      clear htx hbs
      have hd120 : decide ((i : Int) < 120) = true := decide_eq_true (by omega)
      go_upto_block 2 with (fail)
      clear hd120
      clear hlook z0 z1 z2
      have hXB : wr.heap.size ≠ B := by have := HM.out.lt; omega
      have hbx := boxed3 wr (.int .i64 kd) (.int .i64 j) (.slice ab b.length cb) 48
      have HBW := Aside0.mk (below_alloc HB.out (.cells #[.int .i64 kd, .int .i64 j, .slice ab b.length cb] 48))
      have n0_ := Aside0.mk (Kd.R_alloc HO.out (.cells #[.int .i64 kd, .int .i64 j, .slice ab b.length cb] 48))
      have n1_ := Aside0.mk (Mp.below HM.out (below_alloc (Below.refl _ _) (.cells #[.int .i64 kd, .int .i64 j, .slice ab b.length cb] 48)))
      clear HO HM HB
      have HO := n0_
      have HM := n1_
      clear n0_ n1_
      obtain ⟨X, hX⟩ : ∃ X, X = wr.heap.size := ⟨_, rfl⟩
      obtain ⟨W0, hW0⟩ : ∃ W, W = wr.alloc (.cells #[.int .i64 kd, .int .i64 j, .slice ab b.length cb] 48) := ⟨_, rfl⟩
      rw [← hX] at hXB hbx ⊢
      rw [← hW0] at hbx HBW HO HM ⊢
      obtain ⟨hb0, hb1, hb2⟩ := hbx
      clear hX hW0
      go_cut [10, 11] (fun v10 v11 wc => ∃ (e : Int) (P' : List Int) (s' : Slots) (Av : Option Addr) (nv cv : Nat), v10 = .int .i64 e ∧ v11 = .slice Av nv cv ∧ (e = 0 ∨ e = 3 ∨ e = 7) ∧ Aside0 ((e = 0 ∧ 0 ≤ kd ∧ kd ≤ 2) → nv = P'.length ∧ Kd.R (Kd.int .u8) 5 wc w.heap.size (fun _ => True) (.slice Av nv cv) P') ∧ Aside0 (¬ (e = 0 ∧ 0 ≤ kd ∧ kd ≤ 2) → P' = P ∧ s' = s) ∧ Aside0 (Good P' s') ∧ Aside0 (Mp wc B (i + 1) s') ∧ Aside0 (Kd.R (Kd.int .u8) 5 wc w.heap.size (fun _ => True) (.slice AP P.length cP) P) ∧ wc.cell? ⟨X, 0, none⟩ = some (.int .i64 kd) ∧ Aside0 (Below w.heap.size w wc))
      case first =>
        by_cases hk0 : kd = 0
        · have hk0b : (kd == 0) = true := beq_iff_eq.2 hk0
          have HK0 := Aside0.mk hk0
          clear hk0
          rcases ins_good HG.out HBB.out with hins | ⟨at_, P2, s', hins, hg2, hat, hnone, hturn, hsz⟩
          · as_aux_lemma =>
              have HINS := Aside0.mk hins
              clear hins
              go_wp2_with (first
                | ((with_reducible refine gate_dst (N := 58) rfl ?_); refine goesL_ (some 58) rfl rfl Try.func19 (by kernel_rfl) rfl #[.slice AP P.length cP, .slice ab b.length cb] rfl (by (try simp only [List.map_toArray, List.map_cons, List.map_nil]); first | done | rfl) ?_; (with_reducible refine (s_insert HINS.out _ AP cP ab cb (Kd.R_reads' HO.out).2.2 (Kd.R_reads' HO.out).2.1 HG.out.b (Kd.C_below HCB.out HBW.out) hcb HBB.out hlb).mono ?_); rintro e_ w3 ⟨v3, rfl, HI, HB3⟩; refine ⟨_, rfl, ?_⟩; obtain ⟨A3, c3, hv3⟩ := Kd.R_slice HI.out; subst hv3; have HZ := Aside0.mk HBW.out.size; have m0_ := Aside0.mk (Kd.R_below HO.out HB3.out); have m1_ := Aside0.mk (Mp.below HM.out HB3.out); have n0_ := Aside0.mk (below_step HBW.out HB3.out); have p0_ := pw_cell_below HB3.out hb0; have p1_ := pw_cell_below HB3.out hb1; have p2_ := pw_cell_below HB3.out hb2; clear HBW; have HBW := n0_; clear n0_; clear HO; have HO := m0_; clear m0_; clear HM; have HM := m1_; clear m1_; clear hb0; have hb0 := p0_; clear p0_; clear hb1; have hb1 := p1_; clear p1_; clear hb2; have hb2 := p2_; clear p2_)
                | (go_at_call 25; refine (num_any _ _).mono ?_; rintro e_ w' ⟨rfl, rfl⟩))
              go_meet
              case rel => exact ⟨7, P, s, _, _, _, rfl, rfl, by omega, ⟨fun h => absurd h.1 (by omega)⟩, ⟨fun _ => ⟨rfl, rfl⟩⟩, HG, ⟨Mp.mono HM.out (by omega)⟩, HO, hb0, HBW⟩
          · as_aux_lemma =>
              have HINS := Aside0.mk hins
              have HG2 := Aside0.mk hg2
              have HT := Aside0.mk hturn
              have hwat : (Lit.int .i64 (at_ : Int)).wf = true := (Lit.wf_int_iff .i64 _).2 ⟨by show (-9223372036854775808 : Int) ≤ _; omega, by show _ ≤ (9223372036854775807 : Int); omega⟩
              have HNO := Aside0.mk hnone
              clear hins hg2 hturn hnone
              go_wp2_with (first
                | ((with_reducible refine gate_dst (N := 58) rfl ?_); refine goesL_ (some 58) rfl rfl Try.func19 (by kernel_rfl) rfl #[.slice AP P.length cP, .slice ab b.length cb] rfl (by (try simp only [List.map_toArray, List.map_cons, List.map_nil]); first | done | rfl) ?_; (with_reducible refine (s_insert HINS.out _ AP cP ab cb (Kd.R_reads' HO.out).2.2 (Kd.R_reads' HO.out).2.1 HG.out.b (Kd.C_below HCB.out HBW.out) hcb HBB.out hlb).mono ?_); rintro e_ w3 ⟨v3, rfl, HI, HB3⟩; refine ⟨_, rfl, ?_⟩; obtain ⟨A3, c3, hv3⟩ := Kd.R_slice HI.out; subst hv3; have HZ := Aside0.mk HBW.out.size; have m0_ := Aside0.mk (Kd.R_below HO.out HB3.out); have m1_ := Aside0.mk (Mp.below HM.out HB3.out); have n0_ := Aside0.mk (below_step HBW.out HB3.out); have p0_ := pw_cell_below HB3.out hb0; have p1_ := pw_cell_below HB3.out hb1; have p2_ := pw_cell_below HB3.out hb2; clear HBW; have HBW := n0_; clear n0_; clear HO; have HO := m0_; clear m0_; clear HM; have HM := m1_; clear m1_; clear hb0; have hb0 := p0_; clear p0_; clear hb1; have hb1 := p1_; clear p1_; clear hb2; have hb2 := p2_; clear p2_; have hlook2 := Mp.look HM.out (at_ : Int) hwat; rw [HNO.out] at hlook2; have hcvb := Kd.C_string (P := Try.prog) (A := ab) (c := cb) Try.underlying22 Try.underlying5 Try.underlying9 (Kd.C_below HCB.out HBW.out))
                | (go_at_call 25; refine (num_any _ _).mono ?_; rintro e_ w' ⟨rfl, rfl⟩)
                | (at_mapUpdate; refine wpList_mp_put _ rfl _ _ _ rfl B i s s' (at_ : Int) b rfl rfl rfl HM.out (by omega) hwat (by omega) HT.out ?_; intro w4 HM4 hg4; clear hlook2 hcvb hb1 hb2; have m0_ := Aside0.mk (R_map HO.out HM.out hg4); have m1_ := Aside0.mk (R_map HI.out HM.out hg4); have n0_ := Aside0.mk (HBW.out.grown hg4 HBW.out.size (fun k e => by injection e with e; subst e; exact HWB.out)); have p0_ := cell_map hg4 hb0 hXB; clear HO HM HBW HI hb0; have HO := m0_; have HI := m1_; have HM := Aside0.mk HM4; have HBW := n0_; have hb0 := p0_; clear m0_ m1_ n0_ p0_ HM4 hg4))
              go_meet
              case rel => exact ⟨0, P2, s', _, _, _, rfl, rfl, by omega, ⟨fun _ => ⟨rfl, Kd.R_lower HI.out HZ.out⟩⟩, ⟨fun h => absurd ⟨rfl, by have := HK0.out; omega, by have := HK0.out; omega⟩ h⟩, HG2, ⟨Mp.mono HM.out (by omega)⟩, HO, hb0, HBW⟩
        · have hk0b : (kd == 0) = false := beq_eq_false_iff_ne.2 hk0
          have HK0 := Aside0.mk hk0
          clear hk0
          by_cases hk1 : kd = 1
          · have hk1b : (kd == 1) = true := beq_iff_eq.2 hk1
            have HK1 := Aside0.mk hk1
            clear hk1
            cases bs with
            | false =>
              as_aux_lemma =>
                have HINS := Aside0.mk (upd_none (b := b) HG.out (Option.isSome_eq_false_iff.1 HBS.out |> Option.isNone_iff_eq_none.1))
                go_wp2_with (first
                  | ((with_reducible refine gate_dst (N := 91) rfl ?_); refine goesL_ (some 91) rfl rfl Try.func21 (by kernel_rfl) rfl #[.slice AP P.length cP, .int .i64 j, .slice ab b.length cb] rfl (by (try simp only [List.map_toArray, List.map_cons, List.map_nil]); first | done | rfl) ?_; (with_reducible refine (s_update HINS.out _ AP cP ab cb (Kd.R_reads' HO.out).2.2 (Kd.R_reads' HO.out).2.1 HG.out.b (Kd.C_below HCB.out HBW.out) hcb HBB.out hlb).mono ?_); rintro e_ w3 ⟨v3, rfl, HI, HB3⟩; refine ⟨_, rfl, ?_⟩; obtain ⟨A3, c3, hv3⟩ := Kd.R_slice HI.out; subst hv3; have HZ := Aside0.mk HBW.out.size; have m0_ := Aside0.mk (Kd.R_below HO.out HB3.out); have m1_ := Aside0.mk (Mp.below HM.out HB3.out); have n0_ := Aside0.mk (below_step HBW.out HB3.out); have p0_ := pw_cell_below HB3.out hb0; have p1_ := pw_cell_below HB3.out hb1; have p2_ := pw_cell_below HB3.out hb2; clear HBW; have HBW := n0_; clear n0_; clear HO; have HO := m0_; clear m0_; clear HM; have HM := m1_; clear m1_; clear hb0; have hb0 := p0_; clear p0_; clear hb1; have hb1 := p1_; clear p1_; clear hb2; have hb2 := p2_; clear p2_)
                  | (go_at_call 25; refine (num_any _ _).mono ?_; rintro e_ w' ⟨rfl, rfl⟩))
                go_meet
                case rel => exact ⟨3, P, s, _, _, _, rfl, rfl, by omega, ⟨fun h => absurd h.1 (by omega)⟩, ⟨fun _ => ⟨rfl, rfl⟩⟩, HG, ⟨Mp.mono HM.out (by omega)⟩, HO, hb0, HBW⟩
            | true =>
              as_aux_lemma =>
                obtain ⟨q, hq⟩ := Option.isSome_iff_exists.1 HBS.out
                rcases upd_some HG.out HBB.out hq with hins | ⟨P2, s', hins, hg2, hturn, hsz⟩
                · as_aux_lemma =>
                    have HINS := Aside0.mk hins
                    clear hins hq
                    go_wp2_with (first
                      | ((with_reducible refine gate_dst (N := 91) rfl ?_); refine goesL_ (some 91) rfl rfl Try.func21 (by kernel_rfl) rfl #[.slice AP P.length cP, .int .i64 j, .slice ab b.length cb] rfl (by (try simp only [List.map_toArray, List.map_cons, List.map_nil]); first | done | rfl) ?_; (with_reducible refine (s_update HINS.out _ AP cP ab cb (Kd.R_reads' HO.out).2.2 (Kd.R_reads' HO.out).2.1 HG.out.b (Kd.C_below HCB.out HBW.out) hcb HBB.out hlb).mono ?_); rintro e_ w3 ⟨v3, rfl, HI, HB3⟩; refine ⟨_, rfl, ?_⟩; obtain ⟨A3, c3, hv3⟩ := Kd.R_slice HI.out; subst hv3; have HZ := Aside0.mk HBW.out.size; have m0_ := Aside0.mk (Kd.R_below HO.out HB3.out); have m1_ := Aside0.mk (Mp.below HM.out HB3.out); have n0_ := Aside0.mk (below_step HBW.out HB3.out); have p0_ := pw_cell_below HB3.out hb0; have p1_ := pw_cell_below HB3.out hb1; have p2_ := pw_cell_below HB3.out hb2; clear HBW; have HBW := n0_; clear n0_; clear HO; have HO := m0_; clear m0_; clear HM; have HM := m1_; clear m1_; clear hb0; have hb0 := p0_; clear p0_; clear hb1; have hb1 := p1_; clear p1_; clear hb2; have hb2 := p2_; clear p2_)
                      | (go_at_call 25; refine (num_any _ _).mono ?_; rintro e_ w' ⟨rfl, rfl⟩))
                    go_meet
                    case rel => exact ⟨7, P, s, _, _, _, rfl, rfl, by omega, ⟨fun h => absurd h.1 (by omega)⟩, ⟨fun _ => ⟨rfl, rfl⟩⟩, HG, ⟨Mp.mono HM.out (by omega)⟩, HO, hb0, HBW⟩
                · as_aux_lemma =>
                    have HINS := Aside0.mk hins
                    have HG2 := Aside0.mk hg2
                    have HT := Aside0.mk hturn
                    clear hins hq hg2 hturn
                    go_wp2_with (first
                      | ((with_reducible refine gate_dst (N := 91) rfl ?_); refine goesL_ (some 91) rfl rfl Try.func21 (by kernel_rfl) rfl #[.slice AP P.length cP, .int .i64 j, .slice ab b.length cb] rfl (by (try simp only [List.map_toArray, List.map_cons, List.map_nil]); first | done | rfl) ?_; (with_reducible refine (s_update HINS.out _ AP cP ab cb (Kd.R_reads' HO.out).2.2 (Kd.R_reads' HO.out).2.1 HG.out.b (Kd.C_below HCB.out HBW.out) hcb HBB.out hlb).mono ?_); rintro e_ w3 ⟨v3, rfl, HI, HB3⟩; refine ⟨_, rfl, ?_⟩; obtain ⟨A3, c3, hv3⟩ := Kd.R_slice HI.out; subst hv3; have HZ := Aside0.mk HBW.out.size; have m0_ := Aside0.mk (Kd.R_below HO.out HB3.out); have m1_ := Aside0.mk (Mp.below HM.out HB3.out); have n0_ := Aside0.mk (below_step HBW.out HB3.out); have p0_ := pw_cell_below HB3.out hb0; have p1_ := pw_cell_below HB3.out hb1; have p2_ := pw_cell_below HB3.out hb2; clear HBW; have HBW := n0_; clear n0_; clear HO; have HO := m0_; clear m0_; clear HM; have HM := m1_; clear m1_; clear hb0; have hb0 := p0_; clear p0_; clear hb1; have hb1 := p1_; clear p1_; clear hb2; have hb2 := p2_; clear p2_; have hcvb := Kd.C_string (P := Try.prog) (A := ab) (c := cb) Try.underlying22 Try.underlying5 Try.underlying9 (Kd.C_below HCB.out HBW.out))
                      | (go_at_call 25; refine (num_any _ _).mono ?_; rintro e_ w' ⟨rfl, rfl⟩)
                      | (at_mapUpdate; refine wpList_mp_put _ rfl _ _ _ rfl B i s s' j b rfl rfl rfl HM.out (by omega) hwj (by omega) HT.out ?_; intro w4 HM4 hg4; clear hcvb hb1 hb2; have m0_ := Aside0.mk (R_map HO.out HM.out hg4); have m1_ := Aside0.mk (R_map HI.out HM.out hg4); have n0_ := Aside0.mk (HBW.out.grown hg4 HBW.out.size (fun k e => by injection e with e; subst e; exact HWB.out)); have p0_ := cell_map hg4 hb0 hXB; clear HO HM HBW HI hb0; have HO := m0_; have HI := m1_; have HM := Aside0.mk HM4; have HBW := n0_; have hb0 := p0_; clear m0_ m1_ n0_ p0_ HM4 hg4))
                    go_meet
                    case rel => exact ⟨0, P2, s', _, _, _, rfl, rfl, by omega, ⟨fun _ => ⟨rfl, Kd.R_lower HI.out HZ.out⟩⟩, ⟨fun h => absurd ⟨rfl, by have := HK1.out; omega, by have := HK1.out; omega⟩ h⟩, HG2, ⟨Mp.mono HM.out (by omega)⟩, HO, hb0, HBW⟩
          · have hk1b : (kd == 1) = false := beq_eq_false_iff_ne.2 hk1
            have HK1 := Aside0.mk hk1
            clear hk1
            by_cases hk2 : kd = 2
            · have hk2b : (kd == 2) = true := beq_iff_eq.2 hk2
              have HK2 := Aside0.mk hk2
              clear hk2
              cases bs with
              | false =>
                as_aux_lemma =>
                  have hnone := Option.isSome_eq_false_iff.1 HBS.out |> Option.isNone_iff_eq_none.1
                  have HINS := Aside0.mk (del_none HG.out hnone)
                  have HT : Aside0 (Turned s s j none) := ⟨fun k => by by_cases hk : k = j; (rw [if_pos hk, hk]; exact hnone); rw [if_neg hk]⟩
                  clear hnone
                  go_wp2_with (first
                    | ((with_reducible refine gate_dst (N := 117) rfl ?_); refine goesL_ (some 117) rfl rfl Try.func23 (by kernel_rfl) rfl #[.slice AP P.length cP, .int .i64 j] rfl (by (try simp only [List.map_toArray, List.map_cons, List.map_nil]); first | done | rfl) ?_; (with_reducible refine (s_delete HINS.out _ AP cP (Kd.R_reads' HO.out).2.2 (Kd.R_reads' HO.out).2.1 HG.out.b).mono ?_); rintro e_ w3 ⟨v3, rfl, HI, HB3⟩; refine ⟨_, rfl, ?_⟩; obtain ⟨A3, c3, hv3⟩ := Kd.R_slice HI.out; subst hv3; have HZ := Aside0.mk HBW.out.size; have m0_ := Aside0.mk (Kd.R_below HO.out HB3.out); have m1_ := Aside0.mk (Mp.below HM.out HB3.out); have n0_ := Aside0.mk (below_step HBW.out HB3.out); have p0_ := pw_cell_below HB3.out hb0; have p1_ := pw_cell_below HB3.out hb1; have p2_ := pw_cell_below HB3.out hb2; clear HBW; have HBW := n0_; clear n0_; clear HO; have HO := m0_; clear m0_; clear HM; have HM := m1_; clear m1_; clear hb0; have hb0 := p0_; clear p0_; clear hb1; have hb1 := p1_; clear p1_; clear hb2; have hb2 := p2_; clear p2_)
                    | (go_at_call 25; refine (num_any _ _).mono ?_; rintro e_ w' ⟨rfl, rfl⟩)
                    | (at_delete; refine wpList_mp_del _ rfl _ _ rfl B i s s j rfl rfl HM.out hwj HT.out ?_; intro w4 HM4 hg4; clear hb1 hb2; have m0_ := Aside0.mk (R_map HO.out HM.out hg4); have m1_ := Aside0.mk (R_map HI.out HM.out hg4); have n0_ := Aside0.mk (HBW.out.grown hg4 HBW.out.size (fun k e => by injection e with e; subst e; exact HWB.out)); have p0_ := cell_map hg4 hb0 hXB; clear HO HM HBW HI hb0; have HO := m0_; have HI := m1_; have HM := Aside0.mk HM4; have HBW := n0_; have hb0 := p0_; clear m0_ m1_ n0_ p0_ HM4 hg4))
                  go_meet
                  case rel => exact ⟨3, P, s, _, _, _, rfl, rfl, by omega, ⟨fun h => absurd h.1 (by omega)⟩, ⟨fun _ => ⟨rfl, rfl⟩⟩, HG, ⟨Mp.mono HM.out (by omega)⟩, HO, hb0, HBW⟩
              | true =>
                as_aux_lemma =>
                  obtain ⟨q, hq⟩ := Option.isSome_iff_exists.1 HBS.out
                  obtain ⟨P2, s', hins, hg2, hturn⟩ := del_some HG.out hq
                  have HINS := Aside0.mk hins
                  have HG2 := Aside0.mk hg2
                  have HT := Aside0.mk hturn
                  clear hins hq hg2 hturn
                  go_wp2_with (first
                    | ((with_reducible refine gate_dst (N := 117) rfl ?_); refine goesL_ (some 117) rfl rfl Try.func23 (by kernel_rfl) rfl #[.slice AP P.length cP, .int .i64 j] rfl (by (try simp only [List.map_toArray, List.map_cons, List.map_nil]); first | done | rfl) ?_; (with_reducible refine (s_delete HINS.out _ AP cP (Kd.R_reads' HO.out).2.2 (Kd.R_reads' HO.out).2.1 HG.out.b).mono ?_); rintro e_ w3 ⟨v3, rfl, HI, HB3⟩; refine ⟨_, rfl, ?_⟩; obtain ⟨A3, c3, hv3⟩ := Kd.R_slice HI.out; subst hv3; have HZ := Aside0.mk HBW.out.size; have m0_ := Aside0.mk (Kd.R_below HO.out HB3.out); have m1_ := Aside0.mk (Mp.below HM.out HB3.out); have n0_ := Aside0.mk (below_step HBW.out HB3.out); have p0_ := pw_cell_below HB3.out hb0; have p1_ := pw_cell_below HB3.out hb1; have p2_ := pw_cell_below HB3.out hb2; clear HBW; have HBW := n0_; clear n0_; clear HO; have HO := m0_; clear m0_; clear HM; have HM := m1_; clear m1_; clear hb0; have hb0 := p0_; clear p0_; clear hb1; have hb1 := p1_; clear p1_; clear hb2; have hb2 := p2_; clear p2_)
                    | (go_at_call 25; refine (num_any _ _).mono ?_; rintro e_ w' ⟨rfl, rfl⟩)
                    | (at_delete; refine wpList_mp_del _ rfl _ _ rfl B i s s' j rfl rfl HM.out hwj HT.out ?_; intro w4 HM4 hg4; clear hb1 hb2; have m0_ := Aside0.mk (R_map HO.out HM.out hg4); have m1_ := Aside0.mk (R_map HI.out HM.out hg4); have n0_ := Aside0.mk (HBW.out.grown hg4 HBW.out.size (fun k e => by injection e with e; subst e; exact HWB.out)); have p0_ := cell_map hg4 hb0 hXB; clear HO HM HBW HI hb0; have HO := m0_; have HI := m1_; have HM := Aside0.mk HM4; have HBW := n0_; have hb0 := p0_; clear m0_ m1_ n0_ p0_ HM4 hg4))
                  go_meet
                  case rel => exact ⟨0, P2, s', _, _, _, rfl, rfl, by omega, ⟨fun _ => ⟨rfl, Kd.R_lower HI.out HZ.out⟩⟩, ⟨fun h => absurd ⟨rfl, by have := HK2.out; omega, by have := HK2.out; omega⟩ h⟩, HG2, ⟨Mp.mono HM.out (by omega)⟩, HO, hb0, HBW⟩
            · as_aux_lemma =>
                have hk2b : (kd == 2) = false := beq_eq_false_iff_ne.2 hk2
                have HK2 := Aside0.mk hk2
                clear hk2
                go_wp2
                go_meet
                case rel => exact ⟨0, P, s, _, _, _, rfl, rfl, by omega, ⟨fun h => absurd h (by have := HK0.out; have := HK1.out; have := HK2.out; omega)⟩, ⟨fun _ => ⟨rfl, rfl⟩⟩, HG, ⟨Mp.mono HM.out (by omega)⟩, HO, hb0, HBW⟩
      case rest =>
        as_aux_lemma =>
          clear HO HM HBW hb0 hb1 hb2
          obtain ⟨e, P2, s2, Av, nv, cv, rfl, rfl, he, H1, H2, HG2, HM, HO, hb0, HBW⟩ := hcut
          obtain ⟨wA, hwA⟩ : ∃ wA : World, wA = wc := ⟨_, rfl⟩
          subst hwA
          go_upto_region 36 with (fail)
          go_cut [139] (fun v139 wd => v139 = .bool false ∧ Aside0 (wA = wd))
          case first =>
            rcases he with rfl | rfl | rfl
            all_goals
              go_wp2
              go_meet
              case rel => exact ⟨rfl, ⟨rfl⟩⟩
          case rest =>
            as_aux_lemma =>
              obtain ⟨rfl, ⟨hwd⟩⟩ := hcut
              subst hwd
              go_upto_region 38 with (fail)
              go_cut [151] (fun v151 wd => ∃ bc : Bool, v151 = .bool bc ∧ Aside0 (bc = true ↔ (e = 0 ∧ 0 ≤ kd ∧ kd ≤ 2)) ∧ Aside0 (wA = wd))
              case first =>
                by_cases hc : e = 0 ∧ 0 ≤ kd ∧ kd ≤ 2
                · as_aux_lemma =>
                    have HC := Aside0.mk hc
                    obtain ⟨he0, hk1, hk2⟩ := hc
                    have he0b : (e == 0) = true := beq_iff_eq.2 he0
                    clear he he0
                    go_wp2
                    go_meet
                    case rel => exact ⟨true, rfl, ⟨fun _ => HC.out, fun _ => rfl⟩, ⟨rfl⟩⟩
                · as_aux_lemma =>
                    have HC := Aside0.mk hc
                    have hw3 : ((e == 0) = false) ∨ ((e == 0) = true ∧ kd < 0) ∨ ((e == 0) = true ∧ 0 ≤ kd ∧ 2 < kd) := by
                      by_cases he0 : e = 0
                      · have := beq_iff_eq.2 he0
                        by_cases hk : kd < 0
                        · exact .inr (.inl ⟨this, hk⟩)
                        · exact .inr (.inr ⟨this, by omega, by omega⟩)
                      · exact .inl (beq_eq_false_iff_ne.2 he0)
                    clear hc he
                    rcases hw3 with hq | ⟨hq, hq1⟩ | ⟨hq, hq1, hq2⟩
                    all_goals
                      go_wp2
                      go_meet
                      case rel => exact ⟨false, (by first | rfl | (rw [decide_eq_false (by omega)])), ⟨fun h => by simp at h, fun h => absurd h HC.out⟩, ⟨rfl⟩⟩
              case rest =>
                as_aux_lemma =>
                  obtain ⟨bc, rfl, HBC, ⟨hwd⟩⟩ := hcut
                  subst hwd
                  go_upto_if 151 with (fail)
                  go_cut [3] (fun v3 wd => ∃ (A' : Option Addr) (c' : Nat), v3 = .slice A' P2.length c' ∧ Aside0 (Kd.R (Kd.int .u8) 5 wd w.heap.size (fun _ => True) (.slice A' P2.length c') P2) ∧ Aside0 (wA = wd))
                  case first =>
                    cases bc with
                    | true =>
                      as_aux_lemma =>
                        obtain ⟨hn, hR⟩ := H1.out (HBC.out.1 rfl)
                        subst hn
                        have HR2 := Aside0.mk hR
                        clear hR
                        go_wp2
                        go_meet
                        case rel => exact ⟨_, _, rfl, HR2, ⟨rfl⟩⟩
                    | false =>
                      as_aux_lemma =>
                        obtain ⟨hP, hs⟩ := H2.out (fun h => by have := HBC.out.2 h; simp at this)
                        subst hP hs
                        go_wp2
                        go_meet
                        case rel => exact ⟨_, _, rfl, HO, ⟨rfl⟩⟩
                  case rest =>
                    as_aux_lemma =>
                      clear HO HBC
                      obtain ⟨A', c', rfl, HO, ⟨hwd⟩⟩ := hcut
                      subst hwd
                      obtain ⟨hsl, hsz, hPl⟩ := good_len HG2.out
                      have HSL := Aside0.mk hsl
                      have HSZ := Aside0.mk hsz
                      clear H1 H2 hb0 he hsl hsz hPl
                      go_wp2
                      go_loopw [5, 21] (fun v5 v21 wk => ∃ (k us : Nat), k ≤ 130 ∧ us ≤ 504 ∧ v21 = .int .i64 (k : Int) ∧ v5 = .int .i64 (us : Int) ∧ Aside0 (us = sizes (s2.take k)) ∧ Aside0 (Kd.R (Kd.int .u8) 5 wk w.heap.size (fun _ => True) (.slice A' P2.length c') P2) ∧ Aside0 (Mp wk B (i + 1) s2) ∧ Aside0 (Below w.heap.size w wk)) (fun _ v21 _ => 130 - (intOf v21).toNat)
                      case atStart => exact ⟨0, 0, by omega, by omega, rfl, rfl, ⟨rfl⟩, HO, HM, HBW⟩
                      case round =>
                        as_aux_lemma =>
                          clear HO HM HBW
                          obtain ⟨k, us, hk, hus, rfl, rfl, HUS, HO, HM, HBW⟩ := hrel
                          by_cases hlt2 : k < 130
                          · as_aux_lemma =>
                              obtain ⟨xg, hxg⟩ : ∃ x, (slotAt s2 (k : Int)).getD [] = x := ⟨_, rfl⟩
                              obtain ⟨og, hog⟩ : ∃ x, (slotAt s2 (k : Int)).isSome = x := ⟨_, rfl⟩
                              have hstep := used_step s2 k
                              rw [hxg] at hstep
                              have hle := sizes_take_le s2 (k + 1)
                              have hus2 : us + xg.length ≤ 504 := by rw [HUS.out]; have := HSZ.out; omega
                              have HST := Aside0.mk hstep
                              have HG3 : Aside0 ((getL P2 (k : Int)).getD [] = xg) := ⟨by rw [good_get HG2.out]; exact hxg⟩
                              have HO3 : Aside0 ((getL P2 (k : Int)).isSome = og) := ⟨by rw [good_get HG2.out]; exact hog⟩
                              have hwk : (Lit.int .i64 (k : Int)).wf = true := (Lit.wf_int_iff .i64 _).2 ⟨by show (-9223372036854775808 : Int) ≤ _; omega, by show _ ≤ (9223372036854775807 : Int); omega⟩
                              have HTX : Aside0 (txt (slotAt s2 (k : Int)) = strOfNums xg) := ⟨by unfold txt; rw [hxg]⟩
                              have HOG := Aside0.mk hog
                              clear hxg hog hstep hle
                              go_wp2_with ((with_reducible refine gate_dst (N := 161) rfl ?_); refine goesL_ (some 161) rfl rfl Try.func7 (by kernel_rfl) rfl #[.slice A' P2.length c', .int .i64 (k : Int)] rfl (by (try simp only [List.map_toArray, List.map_cons, List.map_nil]); first | done | rfl) ?_; (with_reducible refine (s_get HG3.out HO3.out _ A' c' (Kd.R_reads' HO.out).2.2 (Kd.R_reads' HO.out).2.1 HG2.out.b).mono ?_); rintro e_ w3 ⟨v3, rfl, HI, HB3⟩; refine ⟨_, rfl, ?_⟩; obtain ⟨A3, c3, hv3⟩ := Kd.R_slice HI.out; subst hv3; have m0_ := Aside0.mk (Kd.R_below HO.out HB3.out); have m1_ := Aside0.mk (Mp.below HM.out HB3.out); have n0_ := Aside0.mk (below_step HBW.out HB3.out); clear HBW; have HBW := n0_; clear n0_; clear HO; have HO := m0_; clear m0_; clear HM; have HM := m1_; clear m1_; have hlook := Mp.look HM.out (k : Int) hwk; rw [HTX.out, HOG.out] at hlook; have hcvg := own_string (P := Try.prog) Try.underlying22 Try.underlying5 Try.underlying9 (Kd.own_of_R HI.out))
                              go_roundw
                              case rel => exact ⟨k + 1, us + xg.length, by omega, hus2, by go_num, by go_num, ⟨by rw [HST.out, HUS.out]⟩, HO, HM, HBW⟩
                              case measure => simp [intOf]; omega
                          · as_aux_lemma =>
                              obtain rfl : k = 130 := by omega
                              have hus3 : us = sizes s2 := by rw [HUS.out, List.take_of_length_le (by have := HSL.out; omega)]
                              have hsl3 : s2.length ≤ 125 := HSL.out
                              have HRM : Aside0 (roomP P2 = 502 - 4 * (s2.length : Int) - (us : Int)) := ⟨by rw [good_room HG2.out, hus3]⟩
                              have HRT := Aside0.mk (good_right HG2.out)
                              have HSLO := Aside0.mk (good_slots HG2.out)
                              clear hus3 hlt2
                              obtain ⟨sl, hsl⟩ : ∃ n, n = s2.length := ⟨_, rfl⟩
                              rw [← hsl] at HRM HSLO hsl3
                              clear hsl
                              go_wp2_with (first
                              | (go_at_call 9; (with_reducible refine (s_right HRT.out _ A' c' (Kd.R_reads' HO.out).2.2 (Kd.R_reads' HO.out).2.1 HG2.out.b).mono ?_); rintro e_ w3 ⟨rfl, HB3⟩; have m0_ := Aside0.mk (Kd.R_below HO.out HB3.out); have m1_ := Aside0.mk (Mp.below HM.out HB3.out); have n0_ := Aside0.mk (below_step HBW.out HB3.out); clear HBW; have HBW := n0_; clear n0_; clear HO; have HO := m0_; clear m0_; clear HM; have HM := m1_; clear m1_)
                              | (go_at_call 13; (with_reducible refine (s_room HRM.out _ A' c' (Kd.R_reads' HO.out).2.2 (Kd.R_reads' HO.out).2.1 HG2.out.b).mono ?_); rintro e_ w3 ⟨rfl, HB3⟩; have m0_ := Aside0.mk (Kd.R_below HO.out HB3.out); have m1_ := Aside0.mk (Mp.below HM.out HB3.out); have n0_ := Aside0.mk (below_step HBW.out HB3.out); clear HBW; have HBW := n0_; clear n0_; clear HO; have HO := m0_; clear m0_; clear HM; have HM := m1_; clear m1_)
                              | (go_at_call 11; (with_reducible refine (s_slots HSLO.out _ A' c' (Kd.R_reads' HO.out).2.2 (Kd.R_reads' HO.out).2.1 HG2.out.b).mono ?_); rintro e_ w3 ⟨rfl, HB3⟩; have m0_ := Aside0.mk (Kd.R_below HO.out HB3.out); have m1_ := Aside0.mk (Mp.below HM.out HB3.out); have n0_ := Aside0.mk (below_step HBW.out HB3.out); clear HBW; have HBW := n0_; clear n0_; clear HO; have HO := m0_; clear m0_; clear HM; have HM := m1_; clear m1_))
                              go_roundw
                              case rel => exact ⟨P2, s2, i + 1, A', c', rfl, by go_num, by omega, by omega, HG2, HO, HM, HBW⟩
                              case measure => simp [intOf]; omega
    · as_aux_lemma =>
        have hq : (¬ i < l.length) ∨ (i < l.length ∧ ¬ i < 120) := by omega
        clear hlt
        rcases hq with hq | ⟨hq, hq2⟩
        all_goals
          go_wp2_with (go_at_call 18; refine (knows_any _).mono ?_; rintro e_ w9 ⟨rfl, HB9⟩; have n0_ := Aside0.mk (below_step HB.out HB9.out); clear HB; have HB := n0_; clear n0_)
          go_ret
          exact ⟨rfl, HB.out⟩
  
end Go.Proofs.Ytbffeibcndbmgaa.Pg

/-! ## Opens -/
set_option linter.unusedVariables false
set_option linter.unusedSimpArgs false
namespace Go.Proofs.Ytbffeibcndbmgaa.Pg
open Go.RowKit Go.Proofs.YtbffeibcndbmgaaW.PrintWords

/-- the cells cs, read at type t by the form's reader within the form's reach, are of kind d. -/
def Opens {α : Type} (P : Program) (d : Kd α) (t : TypeId) (G : α → Prop) : Prop :=
  ∀ (H : Type) (enc : TypeId × Value → H) (w : World) (base : Nat) (spare : Nat → Bool) (held : Bool) (fuel : Nat) (cs : List Value) (x : DataW H × List MemPlace), DataW.trod enc P w base spare held fuel t cs = some x →
    (∀ n ∈ DataW.weights P t x.1, n ≤ reachBytes) → ∃ v, d.K w v cs ∧ G v
theorem Opens.weak {α : Type} {P : Program} {d : Kd α} {t : TypeId} {G G' : α → Prop} (h : Opens P d t G) (hg : ∀ x, G x → G' x) : Opens P d t G' := by
  intro H enc w base spare held fuel cs x hx hw
  obtain ⟨v, h1, h2⟩ := h H enc w base spare held fuel cs x hx hw
  exact ⟨v, h1, hg v h2⟩
theorem opens_int {P : Program} {t : TypeId} {k : IntKind} (ht : P.underlying t = some (.int k)) : Opens P (Kd.int k) t (fun n => (Lit.int k n).wf = true) := by
  intro H enc w base spare held fuel cs x hx hw
  obtain ⟨n, rfl, _, hn⟩ := DataW.trod_int ht hx
  exact ⟨n, rfl, hn⟩
theorem opens_bool {P : Program} {t : TypeId} (ht : P.underlying t = some .bool) : Opens P Kd.bool t (fun _ => True) := by
  intro H enc w base spare held fuel cs x hx hw
  obtain ⟨b, rfl, _⟩ := DataW.trod_bool ht hx
  exact ⟨b, rfl, trivial⟩
theorem opens_string {P : Program} {t : TypeId} (ht : P.underlying t = some .string) : Opens P Kd.string t (fun s => s.size ≤ reachBytes) := by
  intro H enc w base spare held fuel cs x hx hw
  obtain ⟨s, rfl, rfl, _⟩ := DataW.trod_string ht hx
  refine ⟨s, rfl, ?_⟩
  have := hw s.data.toList.length (by simp [DataW.weights])
  simpa using this

/-- fields from a place on. -/
def OpensL {α : Type} (P : Program) (d : Kd α) (fs : List Field) (off : Nat) (G : α → Prop) : Prop :=
  ∀ (H : Type) (enc : TypeId × Value → H) (w : World) (base : Nat) (spare : Nat → Bool) (held : Bool) (n : Nat) (cs : List Value) (xs : List (DataW H × List MemPlace)), cs.length = off + d.sz → xs.length = fs.length →
    (∀ (i : Nat) (f : Field), fs[i]? = some f → DataW.trod enc P w base spare held n f.type ((cs.drop f.offset).take (P.cellsOf f.type)) = xs[i]?) → (∀ m ∈ DataW.weightsEach P (fs.map (·.type)) (xs.map (·.1)), m ≤ reachBytes) → ∃ v, d.K w v (cs.drop off) ∧ G v
theorem opensL_one {α : Type} {P : Program} {d : Kd α} {f : Field} {off : Nat} {G : α → Prop} (h : Opens P d f.type G) (hsz : P.cellsOf f.type = d.sz) (hoff : f.offset = off) : OpensL P d [f] off G := by
  intro H enc w base spare held n cs xs hl hx ht hw
  obtain ⟨x, rfl⟩ : ∃ x, xs = [x] := List.length_eq_one_iff.1 hx
  have h1 := ht 0 f rfl
  rw [hoff, hsz, List.take_of_length_le (by rw [List.length_drop]; omega)] at h1
  exact h H enc w base spare held n _ x h1 (fun m hm => hw m (by simp [DataW.weightsEach, hm]))
theorem opensL_cons {α β : Type} {P : Program} {d : Kd α} {d2 : Kd β} {f : Field} {fs : List Field} {off : Nat} {G : α → Prop} {G2 : β → Prop} (h : Opens P d f.type G) (hsz : P.cellsOf f.type = d.sz) (hoff : f.offset = off) (h2 : OpensL P d2 fs (off + d.sz) G2) : OpensL P (Kd.pair d d2) (f :: fs) off (fun x => G x.1 ∧ G2 x.2) := by
  intro H enc w base spare held n cs xs hl hx ht hw
  have hl' : cs.length = off + (d.sz + d2.sz) := hl
  cases xs with
  | nil => simp at hx
  | cons x xs =>
    have h1 := ht 0 f rfl
    rw [hoff, hsz] at h1
    obtain ⟨v, hv, gv⟩ := h H enc w base spare held n _ x h1 (fun m hm => hw m (by simp [DataW.weightsEach, hm]))
    obtain ⟨v2, hv2, gv2⟩ := h2 H enc w base spare held n cs xs (by omega) (by simpa using hx) (fun i g hg => by have := ht (i + 1) g (by simpa using hg); simpa using this) (fun m hm => hw m (by simp only [List.map_cons, DataW.weightsEach]; exact List.mem_append_right _ hm))
    refine ⟨(v, v2), ⟨_, _, ?_, hv, hv2⟩, gv, gv2⟩
    rw [← List.drop_drop, List.take_append_drop]
theorem opens_struct {α : Type} {P : Program} {d : Kd α} {t : TypeId} {fs : Array Field} {G : α → Prop} (ht : P.underlying t = some (.struct fs)) (hsz : P.cellsOf t = d.sz) (h : OpensL P d fs.toList 0 G) : Opens P d t G := by
  intro H enc w base spare held fuel cs x hx hw
  obtain ⟨xs, n, rfl, rfl, hl, hxl, he⟩ := DataW.trod_struct ht hx
  obtain ⟨v, hv, gv⟩ := h H enc w base spare held n cs xs (by omega) (by simpa using hxl) (fun i f hf => he i f (by simpa using hf)) (fun m hm => hw m (by simp only [DataW.weights, ht]; exact hm))
  exact ⟨v, hv, gv⟩

theorem list_of_each {α : Type} {n : Nat} {Q : Nat → α → Prop} (h : ∀ i, i < n → ∃ v, Q i v) : ∃ l : List α, l.length = n ∧ ∀ i v, l[i]? = some v → Q i v := by
  induction n with
  | zero => exact ⟨[], rfl, fun i v hv => by simp at hv⟩
  | succ n ih =>
    obtain ⟨l, hl, hq⟩ := ih (fun i hi => h i (by omega))
    obtain ⟨v, hv⟩ := h n (by omega)
    refine ⟨l ++ [v], by simp [hl], fun i u hu => ?_⟩
    by_cases hi : i < l.length
    · rw [List.getElem?_append_left hi] at hu
      exact hq i u hu
    · have hi2 : i < (l ++ [v]).length := (List.getElem?_eq_some_iff.1 hu).1
      rw [List.length_append, List.length_singleton] at hi2
      obtain rfl : i = l.length := by omega
      rw [List.getElem?_append_right (Nat.le_refl _), Nat.sub_self] at hu
      obtain rfl : v = u := by simpa using hu
      rw [hl]
      exact hv
theorem add_twice (a : Addr) (m n : Nat) : (a.add m).add n = a.add (m + n) := by
  unfold Addr.add
  by_cases hm : m = 0
  · subst hm
    simp
  · by_cases hn : n = 0
    · subst hn
      simp
    · simp [hm, hn, Nat.add_assoc]
theorem weightsAll_mem {H : Type} {P : Program} {e : TypeId} : ∀ {ds : List (DataW H)} {i : Nat} {d : DataW H} {m : Nat}, ds[i]? = some d → m ∈ DataW.weights P e d → m ∈ DataW.weightsAll P e ds
  | [], i, d, m, h, _ => by simp at h
  | x :: l, 0, d, m, h, hm => by
    obtain rfl : x = d := by simpa using h
    rw [DataW.weightsAll]
    exact List.mem_append_left _ hm
  | x :: l, i + 1, d, m, h, hm => by
    rw [DataW.weightsAll]
    exact List.mem_append_right _ (weightsAll_mem (i := i) (by simpa using h) hm)
theorem opens_slice {α : Type} {P : Program} {d : Kd α} {t e : TypeId} {G : α → Prop} (ht : P.underlying t = some (.slice e)) (hsz : P.cellsOf e = d.sz) (h : Opens P d e G) : Opens P (Kd.slice e d) t (fun l => l.length * P.bytesOf e ≤ reachBytes ∧ ∀ x ∈ l, G x) := by
  intro H enc w base spare held fuel cs x hx hw
  rcases DataW.trod_slice ht hx with ⟨rfl, _⟩ | ⟨a, len, cap, elems, rest, n, rfl, rfl, rfl, hb, hl, hm, hlen, hel, _, _⟩
  · exact ⟨[], ⟨none, 0, rfl, Nat.le_refl _, rfl, by simp, fun h => absurd h (by simp)⟩, by simp [reachBytes], fun x hx => by simp at hx⟩
  · have hm' : cap ≤ 9223372036854775807 := hm
    have key : ∀ i, i < len → ∃ v, (∃ c, c.length = d.sz ∧ d.K w v c ∧ ∀ j u, c[j]? = some u → w.cell? (a.add (i * d.sz + j)) = some u) ∧ G v := by
      intro i hi
      have h1 := hel i hi
      have hi2 : i < elems.length := by omega
      rw [List.getElem?_eq_getElem hi2, Option.bind_eq_some_iff] at h1
      obtain ⟨c, hc, hc2⟩ := h1
      rw [hsz] at hc
      obtain ⟨v, hv, gv⟩ := h H enc w base spare held n c _ hc2 (fun m hm => hw m (by
        simp only [DataW.weights, ht]
        refine List.mem_cons_of_mem _ (List.mem_append_left _ (weightsAll_mem (i := i) (d := (elems[i]).1) ?_ hm))
        rw [List.getElem?_map, List.getElem?_eq_getElem hi2]
        rfl))
      have hcc := World.cells?_some hc
      refine ⟨v, ⟨c, hcc.2.1, hv, fun j u hu => ?_⟩, gv⟩
      have hj : j < d.sz := by have := (List.getElem?_eq_some_iff.1 hu).1; omega
      have h3 := hcc.2.2 j hj
      rw [add_twice] at h3
      rw [h3]
      exact hu
    obtain ⟨l, hll, hq⟩ := list_of_each key
    refine ⟨l, ⟨some a, cap, by rw [hll], by omega, rfl, by omega, fun _ => ⟨a, rfl, fun j p hp => ?_⟩⟩, ?_, fun x hx => ?_⟩
    · obtain ⟨⟨c, h1, h2, h3⟩, _⟩ := hq j p hp
      exact ⟨c, h1, h2, h3⟩
    · have h1 := hw ((elems.map (·.1)).length * P.bytesOf e + (rest.map (·.1)).length * P.bytesOf e) (by
        simp only [DataW.weights, ht]
        rw [← Nat.add_mul]
        exact List.mem_cons_self ..)
      rw [List.length_map] at h1
      rw [hll, ← hlen]
      omega
    · obtain ⟨i, hi⟩ := List.getElem?_of_mem hx
      exact (hq i x hi).2

end Go.Proofs.Ytbffeibcndbmgaa.Pg

/-! ## KeptOpen -/
set_option linter.unusedVariables false
set_option linter.unusedSimpArgs false
namespace Go.Proofs.Ytbffeibcndbmgaa.Pg
open Go.RowKit Go.Proofs.YtbffeibcndbmgaaW.PrintWords Go.Proofs.YtbffeibcndbmgaaW.PrintLast Go.Proofs.YtbffeibcndbmgaaW.PrintMore

theorem opens_bytes : Opens Try.prog (Kd.slice 5 (Kd.int .u8)) 22 (fun l => Bytes l ∧ l.length ≤ 140737488351232) := by
  refine (opens_slice Try.underlying22 (by kernel_rfl) (opens_int Try.underlying5)).weak ?_
  rintro l ⟨h1, h2⟩
  refine ⟨bytes_of_wf h2, ?_⟩
  have e : Try.prog.bytesOf 5 = 1 := by kernel_rfl
  rw [e] at h1
  unfold reachBytes at h1
  omega
theorem opens_step : Opens Try.prog kStep 48 (fun x => Bytes x.2.2 ∧ (Lit.int .i64 x.2.1).wf = true ∧ x.2.2.length ≤ 140737488351232) := by
  refine (opens_struct Try.underlying48 (by kernel_rfl) (opensL_cons (opens_int Try.underlying3) (by kernel_rfl) rfl (opensL_cons (opens_int Try.underlying3) (by kernel_rfl) rfl (opensL_one opens_bytes (by kernel_rfl) rfl)))).weak ?_
  rintro ⟨k, j, b⟩ ⟨h1, h2, h3, h4⟩
  exact ⟨h3, h2, h4⟩
theorem opens_steps : Opens Try.prog (Kd.slice 48 kStep) 45 (fun l => ∀ x ∈ l, Bytes x.2.2 ∧ (Lit.int .i64 x.2.1).wf = true ∧ x.2.2.length ≤ 140737488351232) :=
  (opens_slice Try.underlying45 (by kernel_rfl) opens_step).weak fun l h => h.2

end Go.Proofs.Ytbffeibcndbmgaa.Pg
