/- Part 3 of 3 of the proofs about pages that the claims of this seat share: contracts of the functions and the lists they compute; their conditions stand in each lemma. -/
import Derived.Test.YtbffeibcndbmgaaA2
import Derived.Lib.SlBytesConst
import Derived.Test.YtbffeibcndbmgaaA1
import Derived.DataShut
set_option linter.unusedVariables false
set_option linter.unusedSimpArgs false

/-! ## ReadMain -/
set_option linter.unusedVariables false
set_option linter.unusedSimpArgs false
namespace Go.Proofs.Ytbffeibcndbmgaa.Pg
open Go.RowKit Go.Shelf Go.Proofs.YtbffeibcndbmgaaW.PrintWords Go.Proofs.YtbffeibcndbmgaaW.PrintLast Go.Proofs.YtbffeibcndbmgaaW.PrintMore Go.Proofs.Ytbffeibcndbmgaa.PPageSteps
attribute [local go_sem] Oper.semAt_some

set_option maxHeartbeats 4000000 in
set_option maxRecDepth 100000 in
theorem read_main (w : World) (A : Option Addr) (c : Nat) (p : List Int) (hp : Kd.C (Kd.int .u8) w A 512 p) (hc : 512 ≤ c) (hby : Bytes p) (cnt : Nat) (hcnt : num2 p = cnt) (hfit : 2 + 4 * cnt ≤ 504) :
    Calls Try.prog 26 #[.slice A 512 c] w fun e w' => Aside0 (ReadPost (readL p) w.heap.size e w') ∧ Aside0 (Below w.heap.size w w') := by
  have HP := Aside0.mk hp
  have HN := Aside0.mk hcnt
  clear hp hcnt
  have h1 : 1 ≤ 9 := by omega
  have hm : Try.prog.follows .mixedOrders = true := by kernel_rfl
  refine (callsIn_wide (n := 9)).1 ?_
  refine callsIn_of_wp_marks Try.func26 rfl trivial ?_ rfl
  simp only [Try.ntmps26, List.size_toArray, List.length_cons, List.length_nil, Nat.reduceAdd, Nat.reduceSub, Array.replicate_succ, Array.replicate_zero, List.push_toArray, List.append_toArray, List.nil_append, List.cons_append]
  gi_wp2_with (first
    | ((refine ⟨trivial, ?_⟩); gi_at_call 35; (with_reducible refine (callsIn_wide.2 (number_any _ A 512 c p (Kd.C_len HP.out) (by omega) hc hby (Kd.C_alloc (Kd.C_alloc (Kd.C_alloc HP.out _) _) _))).mono ?_); rintro e w' ⟨rfl, hd⟩; obtain ⟨m, rfl⟩ := hd.out; rw [HN.out])
    | ((refine ⟨trivial, ?_⟩); gi_at_call 36; (with_reducible refine (callsIn_wide.2 (fields_any _ A 512 c)).mono ?_); rintro e w' ⟨rfl, rfl⟩))
  obtain ⟨W0, hW0⟩ : ∃ W0, W0 = (((((w.alloc (.cells #[.slice A 512 c] 22)).alloc (.cells #[.slice none 0 0] 52)).alloc (.cells #[.bool false] 4)).drewN m).alloc (.cells #[.int .i64 504] 3)).alloc (.cells #[.slice A 512 c] 22) := ⟨_, rfl⟩
  have hst := read_start w A c m W0 hW0
  rw [← hW0]
  clear hW0
  obtain ⟨hsz, hbx, hb0, hb1, hb2, hb3, hbel⟩ := hst
  have HSZ := Aside0.mk hsz
  have HBEL := Aside0.mk hbel
  refine wpIn_rangeFunc_ownG rfl h1 (gf := 42) (lb := #[.pointer (some ⟨w.heap.size + 1 + 1 + 1 + 1, 0, none⟩)]) rfl trivial (enters_of Try.func42 (by kernel_rfl) rfl)
    (iter_stops 8 (w.heap.size + 1 + 1 + 1 + 1) A c p cnt hc hby HN.out hfit (by omega) W0 w hbx.cell hbx.lt HP.out hbel) kp_t (kp_b (by omega) (by omega)) (Below.refl _ _) (fun _ => rfl)
    (RI (.slice A 512 c) p w W0.heap.size) (RX p w) (ri_own _ _ _ _ _ (by omega)) (fun c => rx_own _ _ _ _ (by omega))
    ⟨[], 504, .slice none 0 0, rfl, by omega, by omega, rfl, hb0, hb1, hb2, hb3, Kd.R_nil _ _ _ _ _, Nat.le_refl _, hbel⟩
    (fun x => { tmps := #[.slice A 512 c, .pointer (some ⟨w.heap.size, 0, none⟩), .pointer (some ⟨w.heap.size + 1, 0, none⟩), .pointer (some ⟨w.heap.size + 1 + 1, 0, none⟩), .pointer (some ⟨w.heap.size + 1 + 1 + 1, 0, none⟩), .int .i64 x.1.1, .int .i64 x.1.2, .slice A 512 c, .int .i64 512, .bool false, .bool false, .slice A 512 c, .int .i64 cnt, .int .i64 (4 * cnt), .int .i64 (2 + 4 * cnt), .bool (decide ((504 : Int) < 2 + 4 * (cnt : Int))), .bool (decide ((504 : Int) < 2 + 4 * (cnt : Int))), .slice A 512 c, .func (.func 42) #[] #[.pointer (some ⟨w.heap.size + 1 + 1 + 1 + 1, 0, none⟩)], .int .i64 x.1.1, .int .i64 x.1.2, undef, undef, undef, undef, undef, undef, undef, undef, undef, undef, undef, undef, undef, undef, undef, undef, undef, undef, undef, undef, undef, undef, undef, undef, undef, undef, undef, undef, undef, undef, undef, undef, undef, undef, undef, undef, undef, undef, undef, undef, undef, undef], defers := [] }) ?assign ?body ?done ?stop
  case assign =>
    clear hfit
    intro l x W K hK
    gi_wp2
    exact hK
  case body =>
    have hbz : w.heap.size + 4 < W0.heap.size := by have := HSZ.out; omega
    have HBZ := Aside0.mk hbz
    rintro l pre x W ⟨s, left, v, hcoll, hl0, hl1, hsl, bP, bS, bO, bL, hR, hz, hB⟩ hlt
    obtain ⟨⟨xa, xn⟩, hx⟩ := x
    simp only at hx
    obtain ⟨hx1, hx2, hx3, hx4⟩ := hx
    have hcS := bS.cell
    have hfS := bS.frozen
    have hcL := bL.cell
    have hfL := bL.frozen
    have hcP := bP.cell
    have hcO := bO.cell
    have hfO := bO.frozen
    have HR := Aside0.mk hR
    have HCO := Aside0.mk hcoll
    have HSL := Aside0.mk hsl
    clear hR hcoll hsl
    by_cases h0 : xa = 0
    · subst h0
      obtain ⟨Av, cv, hv⟩ := Kd.R_slice HR.out
      subst hv
      gi_wp2_with (gi_at_builtin; refine wpListIn_slot rfl _ _ rfl rfl rfl HR.out none (.slice none 0 0) (fun _ => False) rfl (fun _ h => h.elim) ?hbase ?hlen ?_; (case hbase => exact hz); (case hlen => have := HSL.out; omega); intro v1 W1 hR1 hg1; obtain ⟨Av1, cv1, hv1⟩ := Kd.R_slice hR1; rw [List.length_append, List.length_singleton] at hv1; subst hv1; have HR1 := Aside0.mk hR1; have HG1 := Aside0.mk hg1; have bS1 := box_keep bS HR.out hg1 (show w.heap.size + 1 < W0.heap.size by omega); have hcS1 := bS1.cell; have hfS1 := bS1.frozen; clear hR1 hg1)
      exact ri_push HBZ.out (by rw [coll_snoc, HCO.out]; rfl) hl0 hl1 (by simp [HSL.out]) bP bS bO bL HR.out hz hB HG1.out HR1.out
    · by_cases hbad : xa > 504 ∨ xn > 504 - xa ∨ left - xn < 0
      · have hcoll2 : coll p (pre ++ [⟨(xa, xn), ⟨hx1, hx2, hx3, hx4⟩⟩]) = none := by
          rw [coll_snoc, HCO.out]
          show readStep p (xa, xn) (s, left) = _
          unfold readStep
          rw [if_neg h0, if_pos hbad]
        have HCO2 := Aside0.mk hcoll2
        have g1 : (xa == 0) = false := beq_eq_false_iff_ne.2 h0
        have hfin := fun y => rx_left (c := .ret) rfl HBZ.out HCO2.out bS bO hB y
        have HFIN := Aside0.mk hfin
        clear hcoll2 hfin
        have hw3 : (xa > 504) ∨ (xa ≤ 504 ∧ xn > 504 - xa) ∨ (xa ≤ 504 ∧ xn ≤ 504 - xa ∧ left - xn < 0) := by omega
        clear hbad
        rcases hw3 with hq | ⟨hq1, hq2⟩ | ⟨hq1, hq2, hq3⟩
        all_goals
          gi_wp2_with (fail)
          exact HFIN.out _
      · have hb1 : xa ≤ 504 := by omega
        have hb2 : xn ≤ 504 - xa := by omega
        have hb3 : 0 ≤ left - xn := by omega
        have g1 : (xa == 0) = false := beq_eq_false_iff_ne.2 h0
        gi_wp2_with (fail)
        obtain ⟨ma, rfl⟩ := Int.eq_ofNat_of_zero_le hx1
        obtain ⟨mn, rfl⟩ := Int.eq_ofNat_of_zero_le hx3
        have hcoll2 : coll p (pre ++ [⟨((ma : Int), (mn : Int)), ⟨hx1, hx2, hx3, hx4⟩⟩]) = some (s ++ [some ((p.drop ma).take mn)], left - mn) := by
          rw [coll_snoc, HCO.out]
          show readStep p ((ma : Int), (mn : Int)) (s, left) = _
          unfold readStep
          rw [if_neg h0, if_neg hbad]
          rfl
        have HCO2 := Aside0.mk hcoll2
        obtain ⟨ad, rfl, _⟩ := HP.out.2.2 (by omega)
        have hs := cutA_mid ad 512 c (ma : Int) ((ma : Int) + mn) ma (ma + mn) rfl (by omega) (by omega) (by omega) (by omega)
        rw [show ma + mn - ma = mn from by omega] at hs
        obtain ⟨bs, hbs⟩ : ∃ bs, bs = (p.drop ma).take mn := ⟨_, rfl⟩
        rw [← hbs] at HCO2
        have HBS := Aside0.mk hbs
        clear hcoll2 hbs
        refine region_round l rfl (by kernel_rfl) hm ?_
        obtain ⟨Wa, hWa⟩ : ∃ Wa, Wa = (W.setCell ⟨w.heap.size + 1 + 1 + 1, 0, none⟩ (.int .i64 (left - mn))).drew := ⟨_, rfl⟩
        have hla := left_set HBZ.out bP bS bO bL HR.out hz hB (left - mn)
        rw [← hWa] at hla ⊢
        clear hWa bP bS bO bL hB hz
        obtain ⟨hKF, hKP, bP, bS, bO, bL, hRa, hza, hBa⟩ := hla
        have HRa := Aside0.mk hRa
        have hfin : ∀ v1 W1, SK.R 22 W1 W0.heap.size (fun k => W0.heap.size ≤ k) v1 (s ++ [some bs]) → Wa.grownBy W1 v.ownBlock →
            KeepsFrom W0.heap.size W (W1.setCell ⟨w.heap.size + 1, 0, none⟩ v1) ∧ Kp w.heap.size (w.heap.size + 1 + 1 + 1 + 1) W (W1.setCell ⟨w.heap.size + 1, 0, none⟩ v1) ∧ RI (.slice (some ad) 512 c) p w W0.heap.size (pre ++ [⟨((ma : Int), (mn : Int)), ⟨hx1, hx2, hx3, hx4⟩⟩]) (W1.setCell ⟨w.heap.size + 1, 0, none⟩ v1) := by
          intro v1 W1 h1 h2
          have h3 := ri_push HBZ.out HCO2.out hb3 (by omega) (by simp [HSL.out]) bP bS bO bL HRa.out hza hBa h2 h1
          exact ⟨hKF.trans h3.1, kp_t hKP h3.2.1, h3.2.2⟩
        have HFIN := Aside0.mk hfin
        have hrec : ∀ W', Wa.grownBy W' none → Kd.C (Kd.int .u8) W' (some (ad.add ma)) mn bs := by
          intro W' hg
          rw [HBS.out]
          have h1 := cut_from (Kd.C_below HP.out (hBa.trans ((Below.refl _ _).grown hg hBa.size (fun k e => by cases e)))) ma (by omega) hc (by omega)
          exact cut_to h1 mn (by omega)
        have HREC := Aside0.mk hrec
        have hok : ∀ k, Wa.heap.size ≤ k → W0.heap.size ≤ k ∧ some k ≠ v.ownBlock := by
          intro k hk
          obtain ⟨_, inner, hown, _⟩ := HRa.out
          exact ⟨by omega, fun e => by have := own_lt hown k e.symm; omega⟩
        have HOK := Aside0.mk hok
        have hga : Wa.grownBy Wa none := ⟨rfl, rfl, rfl, Nat.le_refl _, fun _ _ _ => rfl⟩
        have hlen : s.length ≤ 1000 := by rw [HSL.out]; omega
        obtain ⟨Av, cv, hv⟩ := Kd.R_slice HRa.out
        subst hv
        clear hRa hfin hrec hok hcS hfS hcL hfL hcP hcO hfO hKF hKP
        refine wpAnyIn_take (i := 3) (v := .int .i64 ma) rfl rfl (by kernel_rfl) (by kernel_rfl) (by kernel_rfl) (fun _ _ _ h => h) ⟨Or.inl ⟨by rfl, ?_⟩, fun _ => rfl⟩ ?_
        · intro w; go_simp
        refine wpAnyIn_take (i := 4) (v := .int .i64 ma) rfl rfl (by kernel_rfl) (by kernel_rfl) (by kernel_rfl) (fun _ _ _ h => h) ⟨Or.inl ⟨by rfl, ?_⟩, fun _ => rfl⟩ ?_
        · intro w; go_simp
        refine wpAnyIn_take (i := 5) (v := .int .i64 mn) rfl rfl (by kernel_rfl) (by kernel_rfl) (by kernel_rfl) (fun _ _ _ h => h) ⟨Or.inl ⟨by rfl, ?_⟩, fun _ => rfl⟩ ?_
        · intro w; go_simp
        refine wpAnyIn_take (i := 6) (v := .int .i64 ((ma : Int) + mn)) rfl rfl (by kernel_rfl) (by kernel_rfl) (by kernel_rfl) (fun _ _ _ h => h) ⟨Or.inl ⟨by rfl, ?_⟩, fun _ => rfl⟩ ?_
        · intro w; go_simp; rw [IntWalk.i64_in _ (by omega)]
        refine wpAnyIn_ready (rs := [0, 1, 2]) (by kernel_rfl) (by simp) ?_
        refine AllReadyIn.cons rfl (fun K hK => ?_) ?_
        · skip
          have hld1 := (bS.kept hga (by simp)).cell
          go_simp
          refine hK _ _ ?_
          clear hK K
          refine wpAnyIn_ready (rs := [1, 2]) (by kernel_rfl) (by simp) ?_
          refine AllReadyIn.cons rfl (fun K hK => ?_) ?_
          · skip
            go_simp
            refine hK _ _ ?_
            clear hK K
            have hf2 := fresh_new hga
            have hg2 : Wa.grownBy (Wa.alloc (.cells #[] 5)) none := World.grownBy.trans hga (World.grownBy_alloc _ _ _)
            obtain ⟨g2, hgg2⟩ : ∃ g, g = Wa.heap.size := ⟨_, rfl⟩
            rw [← hgg2] at hf2 ⊢
            clear hgg2
            obtain ⟨W2, hW2⟩ : ∃ W', W' = Wa.alloc (.cells #[] 5) := ⟨_, rfl⟩
            rw [← hW2] at hf2 hg2 ⊢
            clear hW2
            refine wpAnyIn_ready (rs := [2]) (by kernel_rfl) (by simp) ?_
            refine AllReadyIn.cons rfl (fun K hK => ?_) ?_
            · skip
              have hlp3 := (bP.kept hg2 (by simp)).cell
              go_simp
              refine hK _ _ ?_
              clear hK K
              refine wpAnyIn_take (i := 7) (v := .slice (some (ad.add ma)) mn (c - ma)) rfl rfl (by kernel_rfl) (by kernel_rfl) (by kernel_rfl) (fun _ _ _ h => h) ⟨Or.inl ⟨by rfl, ?_⟩, fun _ => rfl⟩ ?_
              · intro w; go_simp
              refine wpAnyIn_ready (rs := [8]) (by kernel_rfl) (by simp) ?_
              refine AllReadyIn.cons rfl (fun K hK => ?_) ?_
              · skip
                refine step_rec rfl (.tmp 42) (.tmp 48) rfl rfl rfl hf2 (HREC.out _ hg2) (by omega) hg2 (fun v4 W4 hM4 hg4 => ?_)
                refine hK _ _ ?_
                clear hK K
                obtain ⟨gv4, cv4, hv4⟩ := m_shape hM4
                subst hv4
                refine wpAnyIn_ready (rs := [9]) (by kernel_rfl) (by simp) ?_
                refine AllReadyIn.cons rfl (fun K hK => ?_) ?_
                · skip
                  go_simp
                  refine hK _ _ ?_
                  clear hK K
                  refine wpAnyIn_ready (rs := [10]) (by kernel_rfl) (by simp) ?_
                  refine AllReadyIn.cons rfl (fun K hK => ?_) ?_
                  · skip
                    refine step_slot rfl (.tmp 41) (.tmp 50) rfl rfl rfl (Kd.R_grown HRa.out hg4 (fun _ _ => by simp)) (some bs) (.slice (some ⟨gv4, 0, none⟩) bs.length cv4) (fun k => Wa.heap.size ≤ k) (sk_lower hM4 hza) (HOK.out) (Nat.le_trans hza hg4.size) (by omega) (fun v9 W9 hR9 hg9 => ?_)
                    refine hK _ _ ?_
                    clear hK K
                    have HG9 : Aside0 (Wa.grownBy W9 (Value.slice Av s.length cv).ownBlock) := ⟨World.grownBy.trans (hg4.weak _) hg9⟩
                    have bS9 := box_keep bS HRa.out HG9.out (show w.heap.size + 1 < W0.heap.size by omega)
                    have hcS9 := bS9.cell
                    have hfS9 := bS9.frozen
                    obtain ⟨Av9, cv9, hv9⟩ := Kd.R_slice hR9
                    rw [List.length_append, List.length_singleton] at hv9
                    subst hv9
                    have HR9 := Aside0.mk hR9
                    clear hR9 hg9
                    refine wpAnyIn_ready (rs := [11]) (by kernel_rfl) (by simp) ?_
                    refine AllReadyIn.cons rfl (fun K hK => ?_) ?_
                    · skip
                      go_simp
                      refine hK _ _ ?_
                      clear hK K
                      refine wpAnyIn_done (by kernel_rfl) ?_ _
                      gi_wp2
                      exact HFIN.out _ _ HR9.out HG9.out
                    exact AllReadyIn.nil
                  exact AllReadyIn.nil
                exact AllReadyIn.nil
              exact AllReadyIn.nil
            exact AllReadyIn.nil
          refine AllReadyIn.cons rfl (fun K hK => ?_) ?_
          · skip
            have hlp8 := (bP.kept hga (by simp)).cell
            go_simp
            refine hK _ _ ?_
            clear hK K
            refine wpAnyIn_take (i := 7) (v := .slice (some (ad.add ma)) mn (c - ma)) rfl rfl (by kernel_rfl) (by kernel_rfl) (by kernel_rfl) (fun _ _ _ h => h) ⟨Or.inl ⟨by rfl, ?_⟩, fun _ => rfl⟩ ?_
            · intro w; go_simp
            refine wpAnyIn_ready (rs := [1]) (by kernel_rfl) (by simp) ?_
            refine AllReadyIn.cons rfl (fun K hK => ?_) ?_
            · skip
              go_simp
              refine hK _ _ ?_
              clear hK K
              have hf9 := fresh_new hga
              have hg9 : Wa.grownBy (Wa.alloc (.cells #[] 5)) none := World.grownBy.trans hga (World.grownBy_alloc _ _ _)
              obtain ⟨g9, hgg9⟩ : ∃ g, g = Wa.heap.size := ⟨_, rfl⟩
              rw [← hgg9] at hf9 ⊢
              clear hgg9
              obtain ⟨W9, hW9⟩ : ∃ W', W' = Wa.alloc (.cells #[] 5) := ⟨_, rfl⟩
              rw [← hW9] at hf9 hg9 ⊢
              clear hW9
              refine wpAnyIn_ready (rs := [8]) (by kernel_rfl) (by simp) ?_
              refine AllReadyIn.cons rfl (fun K hK => ?_) ?_
              · skip
                refine step_rec rfl (.tmp 42) (.tmp 48) rfl rfl rfl hf9 (HREC.out _ hg9) (by omega) hg9 (fun v10 W10 hM10 hg10 => ?_)
                refine hK _ _ ?_
                clear hK K
                obtain ⟨gv10, cv10, hv10⟩ := m_shape hM10
                subst hv10
                refine wpAnyIn_ready (rs := [9]) (by kernel_rfl) (by simp) ?_
                refine AllReadyIn.cons rfl (fun K hK => ?_) ?_
                · skip
                  go_simp
                  refine hK _ _ ?_
                  clear hK K
                  refine wpAnyIn_ready (rs := [10]) (by kernel_rfl) (by simp) ?_
                  refine AllReadyIn.cons rfl (fun K hK => ?_) ?_
                  · skip
                    refine step_slot rfl (.tmp 41) (.tmp 50) rfl rfl rfl (Kd.R_grown HRa.out hg10 (fun _ _ => by simp)) (some bs) (.slice (some ⟨gv10, 0, none⟩) bs.length cv10) (fun k => Wa.heap.size ≤ k) (sk_lower hM10 hza) (HOK.out) (Nat.le_trans hza hg10.size) (by omega) (fun v9 W9 hR9 hg9 => ?_)
                    refine hK _ _ ?_
                    clear hK K
                    have HG9 : Aside0 (Wa.grownBy W9 (Value.slice Av s.length cv).ownBlock) := ⟨World.grownBy.trans (hg10.weak _) hg9⟩
                    have bS9 := box_keep bS HRa.out HG9.out (show w.heap.size + 1 < W0.heap.size by omega)
                    have hcS9 := bS9.cell
                    have hfS9 := bS9.frozen
                    obtain ⟨Av9, cv9, hv9⟩ := Kd.R_slice hR9
                    rw [List.length_append, List.length_singleton] at hv9
                    subst hv9
                    have HR9 := Aside0.mk hR9
                    clear hR9 hg9
                    refine wpAnyIn_ready (rs := [11]) (by kernel_rfl) (by simp) ?_
                    refine AllReadyIn.cons rfl (fun K hK => ?_) ?_
                    · skip
                      go_simp
                      refine hK _ _ ?_
                      clear hK K
                      refine wpAnyIn_done (by kernel_rfl) ?_ _
                      gi_wp2
                      exact HFIN.out _ _ HR9.out HG9.out
                    exact AllReadyIn.nil
                  exact AllReadyIn.nil
                exact AllReadyIn.nil
              exact AllReadyIn.nil
            exact AllReadyIn.nil
          exact AllReadyIn.nil
        refine AllReadyIn.cons rfl (fun K hK => ?_) ?_
        · skip
          go_simp
          refine hK _ _ ?_
          clear hK K
          have hf14 := fresh_new hga
          have hg14 : Wa.grownBy (Wa.alloc (.cells #[] 5)) none := World.grownBy.trans hga (World.grownBy_alloc _ _ _)
          obtain ⟨g14, hgg14⟩ : ∃ g, g = Wa.heap.size := ⟨_, rfl⟩
          rw [← hgg14] at hf14 ⊢
          clear hgg14
          obtain ⟨W14, hW14⟩ : ∃ W', W' = Wa.alloc (.cells #[] 5) := ⟨_, rfl⟩
          rw [← hW14] at hf14 hg14 ⊢
          clear hW14
          refine wpAnyIn_ready (rs := [0, 2]) (by kernel_rfl) (by simp) ?_
          refine AllReadyIn.cons rfl (fun K hK => ?_) ?_
          · skip
            have hld15 := (bS.kept hg14 (by simp)).cell
            go_simp
            refine hK _ _ ?_
            clear hK K
            refine wpAnyIn_ready (rs := [2]) (by kernel_rfl) (by simp) ?_
            refine AllReadyIn.cons rfl (fun K hK => ?_) ?_
            · skip
              have hlp16 := (bP.kept hg14 (by simp)).cell
              go_simp
              refine hK _ _ ?_
              clear hK K
              refine wpAnyIn_take (i := 7) (v := .slice (some (ad.add ma)) mn (c - ma)) rfl rfl (by kernel_rfl) (by kernel_rfl) (by kernel_rfl) (fun _ _ _ h => h) ⟨Or.inl ⟨by rfl, ?_⟩, fun _ => rfl⟩ ?_
              · intro w; go_simp
              refine wpAnyIn_ready (rs := [8]) (by kernel_rfl) (by simp) ?_
              refine AllReadyIn.cons rfl (fun K hK => ?_) ?_
              · skip
                refine step_rec rfl (.tmp 42) (.tmp 48) rfl rfl rfl hf14 (HREC.out _ hg14) (by omega) hg14 (fun v17 W17 hM17 hg17 => ?_)
                refine hK _ _ ?_
                clear hK K
                obtain ⟨gv17, cv17, hv17⟩ := m_shape hM17
                subst hv17
                refine wpAnyIn_ready (rs := [9]) (by kernel_rfl) (by simp) ?_
                refine AllReadyIn.cons rfl (fun K hK => ?_) ?_
                · skip
                  go_simp
                  refine hK _ _ ?_
                  clear hK K
                  refine wpAnyIn_ready (rs := [10]) (by kernel_rfl) (by simp) ?_
                  refine AllReadyIn.cons rfl (fun K hK => ?_) ?_
                  · skip
                    refine step_slot rfl (.tmp 41) (.tmp 50) rfl rfl rfl (Kd.R_grown HRa.out hg17 (fun _ _ => by simp)) (some bs) (.slice (some ⟨gv17, 0, none⟩) bs.length cv17) (fun k => Wa.heap.size ≤ k) (sk_lower hM17 hza) (HOK.out) (Nat.le_trans hza hg17.size) (by omega) (fun v9 W9 hR9 hg9 => ?_)
                    refine hK _ _ ?_
                    clear hK K
                    have HG9 : Aside0 (Wa.grownBy W9 (Value.slice Av s.length cv).ownBlock) := ⟨World.grownBy.trans (hg17.weak _) hg9⟩
                    have bS9 := box_keep bS HRa.out HG9.out (show w.heap.size + 1 < W0.heap.size by omega)
                    have hcS9 := bS9.cell
                    have hfS9 := bS9.frozen
                    obtain ⟨Av9, cv9, hv9⟩ := Kd.R_slice hR9
                    rw [List.length_append, List.length_singleton] at hv9
                    subst hv9
                    have HR9 := Aside0.mk hR9
                    clear hR9 hg9
                    refine wpAnyIn_ready (rs := [11]) (by kernel_rfl) (by simp) ?_
                    refine AllReadyIn.cons rfl (fun K hK => ?_) ?_
                    · skip
                      go_simp
                      refine hK _ _ ?_
                      clear hK K
                      refine wpAnyIn_done (by kernel_rfl) ?_ _
                      gi_wp2
                      exact HFIN.out _ _ HR9.out HG9.out
                    exact AllReadyIn.nil
                  exact AllReadyIn.nil
                exact AllReadyIn.nil
              exact AllReadyIn.nil
            exact AllReadyIn.nil
          refine AllReadyIn.cons rfl (fun K hK => ?_) ?_
          · skip
            have hlp21 := (bP.kept hg14 (by simp)).cell
            go_simp
            refine hK _ _ ?_
            clear hK K
            refine wpAnyIn_take (i := 7) (v := .slice (some (ad.add ma)) mn (c - ma)) rfl rfl (by kernel_rfl) (by kernel_rfl) (by kernel_rfl) (fun _ _ _ h => h) ⟨Or.inl ⟨by rfl, ?_⟩, fun _ => rfl⟩ ?_
            · intro w; go_simp
            refine wpAnyIn_ready (rs := [0, 8]) (by kernel_rfl) (by simp) ?_
            refine AllReadyIn.cons rfl (fun K hK => ?_) ?_
            · skip
              have hld22 := (bS.kept hg14 (by simp)).cell
              go_simp
              refine hK _ _ ?_
              clear hK K
              refine wpAnyIn_ready (rs := [8]) (by kernel_rfl) (by simp) ?_
              refine AllReadyIn.cons rfl (fun K hK => ?_) ?_
              · skip
                refine step_rec rfl (.tmp 42) (.tmp 48) rfl rfl rfl hf14 (HREC.out _ hg14) (by omega) hg14 (fun v23 W23 hM23 hg23 => ?_)
                refine hK _ _ ?_
                clear hK K
                obtain ⟨gv23, cv23, hv23⟩ := m_shape hM23
                subst hv23
                refine wpAnyIn_ready (rs := [9]) (by kernel_rfl) (by simp) ?_
                refine AllReadyIn.cons rfl (fun K hK => ?_) ?_
                · skip
                  go_simp
                  refine hK _ _ ?_
                  clear hK K
                  refine wpAnyIn_ready (rs := [10]) (by kernel_rfl) (by simp) ?_
                  refine AllReadyIn.cons rfl (fun K hK => ?_) ?_
                  · skip
                    refine step_slot rfl (.tmp 41) (.tmp 50) rfl rfl rfl (Kd.R_grown HRa.out hg23 (fun _ _ => by simp)) (some bs) (.slice (some ⟨gv23, 0, none⟩) bs.length cv23) (fun k => Wa.heap.size ≤ k) (sk_lower hM23 hza) (HOK.out) (Nat.le_trans hza hg23.size) (by omega) (fun v9 W9 hR9 hg9 => ?_)
                    refine hK _ _ ?_
                    clear hK K
                    have HG9 : Aside0 (Wa.grownBy W9 (Value.slice Av s.length cv).ownBlock) := ⟨World.grownBy.trans (hg23.weak _) hg9⟩
                    have bS9 := box_keep bS HRa.out HG9.out (show w.heap.size + 1 < W0.heap.size by omega)
                    have hcS9 := bS9.cell
                    have hfS9 := bS9.frozen
                    obtain ⟨Av9, cv9, hv9⟩ := Kd.R_slice hR9
                    rw [List.length_append, List.length_singleton] at hv9
                    subst hv9
                    have HR9 := Aside0.mk hR9
                    clear hR9 hg9
                    refine wpAnyIn_ready (rs := [11]) (by kernel_rfl) (by simp) ?_
                    refine AllReadyIn.cons rfl (fun K hK => ?_) ?_
                    · skip
                      go_simp
                      refine hK _ _ ?_
                      clear hK K
                      refine wpAnyIn_done (by kernel_rfl) ?_ _
                      gi_wp2
                      exact HFIN.out _ _ HR9.out HG9.out
                    exact AllReadyIn.nil
                  exact AllReadyIn.nil
                exact AllReadyIn.nil
              exact AllReadyIn.nil
            refine AllReadyIn.cons rfl (fun K hK => ?_) ?_
            · skip
              refine step_rec rfl (.tmp 42) (.tmp 48) rfl rfl rfl hf14 (HREC.out _ hg14) (by omega) hg14 (fun v27 W27 hM27 hg27 => ?_)
              refine hK _ _ ?_
              clear hK K
              obtain ⟨gv27, cv27, hv27⟩ := m_shape hM27
              subst hv27
              refine wpAnyIn_ready (rs := [0, 9]) (by kernel_rfl) (by simp) ?_
              refine AllReadyIn.cons rfl (fun K hK => ?_) ?_
              · skip
                have hld28 := (bS.kept hg27 (by simp)).cell
                go_simp
                refine hK _ _ ?_
                clear hK K
                refine wpAnyIn_ready (rs := [9]) (by kernel_rfl) (by simp) ?_
                refine AllReadyIn.cons rfl (fun K hK => ?_) ?_
                · skip
                  go_simp
                  refine hK _ _ ?_
                  clear hK K
                  refine wpAnyIn_ready (rs := [10]) (by kernel_rfl) (by simp) ?_
                  refine AllReadyIn.cons rfl (fun K hK => ?_) ?_
                  · skip
                    refine step_slot rfl (.tmp 41) (.tmp 50) rfl rfl rfl (Kd.R_grown HRa.out hg27 (fun _ _ => by simp)) (some bs) (.slice (some ⟨gv27, 0, none⟩) bs.length cv27) (fun k => Wa.heap.size ≤ k) (sk_lower hM27 hza) (HOK.out) (Nat.le_trans hza hg27.size) (by omega) (fun v9 W9 hR9 hg9 => ?_)
                    refine hK _ _ ?_
                    clear hK K
                    have HG9 : Aside0 (Wa.grownBy W9 (Value.slice Av s.length cv).ownBlock) := ⟨World.grownBy.trans (hg27.weak _) hg9⟩
                    have bS9 := box_keep bS HRa.out HG9.out (show w.heap.size + 1 < W0.heap.size by omega)
                    have hcS9 := bS9.cell
                    have hfS9 := bS9.frozen
                    obtain ⟨Av9, cv9, hv9⟩ := Kd.R_slice hR9
                    rw [List.length_append, List.length_singleton] at hv9
                    subst hv9
                    have HR9 := Aside0.mk hR9
                    clear hR9 hg9
                    refine wpAnyIn_ready (rs := [11]) (by kernel_rfl) (by simp) ?_
                    refine AllReadyIn.cons rfl (fun K hK => ?_) ?_
                    · skip
                      go_simp
                      refine hK _ _ ?_
                      clear hK K
                      refine wpAnyIn_done (by kernel_rfl) ?_ _
                      gi_wp2
                      exact HFIN.out _ _ HR9.out HG9.out
                    exact AllReadyIn.nil
                  exact AllReadyIn.nil
                exact AllReadyIn.nil
              refine AllReadyIn.cons rfl (fun K hK => ?_) ?_
              · skip
                go_simp
                refine hK _ _ ?_
                clear hK K
                refine wpAnyIn_ready (rs := [0]) (by kernel_rfl) (by simp) ?_
                refine AllReadyIn.cons rfl (fun K hK => ?_) ?_
                · skip
                  have hld33 := (bS.kept hg27 (by simp)).cell
                  have hld33' := ((bS.kept hg27 (by simp)).alloc (.cells #[(.slice (some ⟨gv27, 0, none⟩) bs.length cv27)] 22)).cell
                  go_simp
                  refine hK _ _ ?_
                  clear hK K
                  refine wpAnyIn_ready (rs := [10]) (by kernel_rfl) (by simp) ?_
                  refine AllReadyIn.cons rfl (fun K hK => ?_) ?_
                  · skip
                    refine step_slot rfl (.tmp 41) (.tmp 50) rfl rfl rfl (Kd.R_grown HRa.out hg27 (fun _ _ => by simp)) (some bs) (.slice (some ⟨gv27, 0, none⟩) bs.length cv27) (fun k => Wa.heap.size ≤ k) (sk_lower hM27 hza) (HOK.out) (Nat.le_trans hza hg27.size) (by omega) (fun v9 W9 hR9 hg9 => ?_)
                    refine hK _ _ ?_
                    clear hK K
                    have HG9 : Aside0 (Wa.grownBy W9 (Value.slice Av s.length cv).ownBlock) := ⟨World.grownBy.trans (hg27.weak _) hg9⟩
                    have bS9 := box_keep bS HRa.out HG9.out (show w.heap.size + 1 < W0.heap.size by omega)
                    have hcS9 := bS9.cell
                    have hfS9 := bS9.frozen
                    obtain ⟨Av9, cv9, hv9⟩ := Kd.R_slice hR9
                    rw [List.length_append, List.length_singleton] at hv9
                    subst hv9
                    have HR9 := Aside0.mk hR9
                    clear hR9 hg9
                    refine wpAnyIn_ready (rs := [11]) (by kernel_rfl) (by simp) ?_
                    refine AllReadyIn.cons rfl (fun K hK => ?_) ?_
                    · skip
                      go_simp
                      refine hK _ _ ?_
                      clear hK K
                      refine wpAnyIn_done (by kernel_rfl) ?_ _
                      gi_wp2
                      exact HFIN.out _ _ HR9.out HG9.out
                    exact AllReadyIn.nil
                  exact AllReadyIn.nil
                exact AllReadyIn.nil
              exact AllReadyIn.nil
            exact AllReadyIn.nil
          exact AllReadyIn.nil
        refine AllReadyIn.cons rfl (fun K hK => ?_) ?_
        · skip
          have hlp36 := (bP.kept hga (by simp)).cell
          go_simp
          refine hK _ _ ?_
          clear hK K
          refine wpAnyIn_take (i := 7) (v := .slice (some (ad.add ma)) mn (c - ma)) rfl rfl (by kernel_rfl) (by kernel_rfl) (by kernel_rfl) (fun _ _ _ h => h) ⟨Or.inl ⟨by rfl, ?_⟩, fun _ => rfl⟩ ?_
          · intro w; go_simp
          refine wpAnyIn_ready (rs := [0, 1]) (by kernel_rfl) (by simp) ?_
          refine AllReadyIn.cons rfl (fun K hK => ?_) ?_
          · skip
            have hld37 := (bS.kept hga (by simp)).cell
            go_simp
            refine hK _ _ ?_
            clear hK K
            refine wpAnyIn_ready (rs := [1]) (by kernel_rfl) (by simp) ?_
            refine AllReadyIn.cons rfl (fun K hK => ?_) ?_
            · skip
              go_simp
              refine hK _ _ ?_
              clear hK K
              have hf38 := fresh_new hga
              have hg38 : Wa.grownBy (Wa.alloc (.cells #[] 5)) none := World.grownBy.trans hga (World.grownBy_alloc _ _ _)
              obtain ⟨g38, hgg38⟩ : ∃ g, g = Wa.heap.size := ⟨_, rfl⟩
              rw [← hgg38] at hf38 ⊢
              clear hgg38
              obtain ⟨W38, hW38⟩ : ∃ W', W' = Wa.alloc (.cells #[] 5) := ⟨_, rfl⟩
              rw [← hW38] at hf38 hg38 ⊢
              clear hW38
              refine wpAnyIn_ready (rs := [8]) (by kernel_rfl) (by simp) ?_
              refine AllReadyIn.cons rfl (fun K hK => ?_) ?_
              · skip
                refine step_rec rfl (.tmp 42) (.tmp 48) rfl rfl rfl hf38 (HREC.out _ hg38) (by omega) hg38 (fun v39 W39 hM39 hg39 => ?_)
                refine hK _ _ ?_
                clear hK K
                obtain ⟨gv39, cv39, hv39⟩ := m_shape hM39
                subst hv39
                refine wpAnyIn_ready (rs := [9]) (by kernel_rfl) (by simp) ?_
                refine AllReadyIn.cons rfl (fun K hK => ?_) ?_
                · skip
                  go_simp
                  refine hK _ _ ?_
                  clear hK K
                  refine wpAnyIn_ready (rs := [10]) (by kernel_rfl) (by simp) ?_
                  refine AllReadyIn.cons rfl (fun K hK => ?_) ?_
                  · skip
                    refine step_slot rfl (.tmp 41) (.tmp 50) rfl rfl rfl (Kd.R_grown HRa.out hg39 (fun _ _ => by simp)) (some bs) (.slice (some ⟨gv39, 0, none⟩) bs.length cv39) (fun k => Wa.heap.size ≤ k) (sk_lower hM39 hza) (HOK.out) (Nat.le_trans hza hg39.size) (by omega) (fun v9 W9 hR9 hg9 => ?_)
                    refine hK _ _ ?_
                    clear hK K
                    have HG9 : Aside0 (Wa.grownBy W9 (Value.slice Av s.length cv).ownBlock) := ⟨World.grownBy.trans (hg39.weak _) hg9⟩
                    have bS9 := box_keep bS HRa.out HG9.out (show w.heap.size + 1 < W0.heap.size by omega)
                    have hcS9 := bS9.cell
                    have hfS9 := bS9.frozen
                    obtain ⟨Av9, cv9, hv9⟩ := Kd.R_slice hR9
                    rw [List.length_append, List.length_singleton] at hv9
                    subst hv9
                    have HR9 := Aside0.mk hR9
                    clear hR9 hg9
                    refine wpAnyIn_ready (rs := [11]) (by kernel_rfl) (by simp) ?_
                    refine AllReadyIn.cons rfl (fun K hK => ?_) ?_
                    · skip
                      go_simp
                      refine hK _ _ ?_
                      clear hK K
                      refine wpAnyIn_done (by kernel_rfl) ?_ _
                      gi_wp2
                      exact HFIN.out _ _ HR9.out HG9.out
                    exact AllReadyIn.nil
                  exact AllReadyIn.nil
                exact AllReadyIn.nil
              exact AllReadyIn.nil
            exact AllReadyIn.nil
          refine AllReadyIn.cons rfl (fun K hK => ?_) ?_
          · skip
            go_simp
            refine hK _ _ ?_
            clear hK K
            have hf43 := fresh_new hga
            have hg43 : Wa.grownBy (Wa.alloc (.cells #[] 5)) none := World.grownBy.trans hga (World.grownBy_alloc _ _ _)
            obtain ⟨g43, hgg43⟩ : ∃ g, g = Wa.heap.size := ⟨_, rfl⟩
            rw [← hgg43] at hf43 ⊢
            clear hgg43
            obtain ⟨W43, hW43⟩ : ∃ W', W' = Wa.alloc (.cells #[] 5) := ⟨_, rfl⟩
            rw [← hW43] at hf43 hg43 ⊢
            clear hW43
            refine wpAnyIn_ready (rs := [0, 8]) (by kernel_rfl) (by simp) ?_
            refine AllReadyIn.cons rfl (fun K hK => ?_) ?_
            · skip
              have hld44 := (bS.kept hg43 (by simp)).cell
              go_simp
              refine hK _ _ ?_
              clear hK K
              refine wpAnyIn_ready (rs := [8]) (by kernel_rfl) (by simp) ?_
              refine AllReadyIn.cons rfl (fun K hK => ?_) ?_
              · skip
                refine step_rec rfl (.tmp 42) (.tmp 48) rfl rfl rfl hf43 (HREC.out _ hg43) (by omega) hg43 (fun v45 W45 hM45 hg45 => ?_)
                refine hK _ _ ?_
                clear hK K
                obtain ⟨gv45, cv45, hv45⟩ := m_shape hM45
                subst hv45
                refine wpAnyIn_ready (rs := [9]) (by kernel_rfl) (by simp) ?_
                refine AllReadyIn.cons rfl (fun K hK => ?_) ?_
                · skip
                  go_simp
                  refine hK _ _ ?_
                  clear hK K
                  refine wpAnyIn_ready (rs := [10]) (by kernel_rfl) (by simp) ?_
                  refine AllReadyIn.cons rfl (fun K hK => ?_) ?_
                  · skip
                    refine step_slot rfl (.tmp 41) (.tmp 50) rfl rfl rfl (Kd.R_grown HRa.out hg45 (fun _ _ => by simp)) (some bs) (.slice (some ⟨gv45, 0, none⟩) bs.length cv45) (fun k => Wa.heap.size ≤ k) (sk_lower hM45 hza) (HOK.out) (Nat.le_trans hza hg45.size) (by omega) (fun v9 W9 hR9 hg9 => ?_)
                    refine hK _ _ ?_
                    clear hK K
                    have HG9 : Aside0 (Wa.grownBy W9 (Value.slice Av s.length cv).ownBlock) := ⟨World.grownBy.trans (hg45.weak _) hg9⟩
                    have bS9 := box_keep bS HRa.out HG9.out (show w.heap.size + 1 < W0.heap.size by omega)
                    have hcS9 := bS9.cell
                    have hfS9 := bS9.frozen
                    obtain ⟨Av9, cv9, hv9⟩ := Kd.R_slice hR9
                    rw [List.length_append, List.length_singleton] at hv9
                    subst hv9
                    have HR9 := Aside0.mk hR9
                    clear hR9 hg9
                    refine wpAnyIn_ready (rs := [11]) (by kernel_rfl) (by simp) ?_
                    refine AllReadyIn.cons rfl (fun K hK => ?_) ?_
                    · skip
                      go_simp
                      refine hK _ _ ?_
                      clear hK K
                      refine wpAnyIn_done (by kernel_rfl) ?_ _
                      gi_wp2
                      exact HFIN.out _ _ HR9.out HG9.out
                    exact AllReadyIn.nil
                  exact AllReadyIn.nil
                exact AllReadyIn.nil
              exact AllReadyIn.nil
            refine AllReadyIn.cons rfl (fun K hK => ?_) ?_
            · skip
              refine step_rec rfl (.tmp 42) (.tmp 48) rfl rfl rfl hf43 (HREC.out _ hg43) (by omega) hg43 (fun v49 W49 hM49 hg49 => ?_)
              refine hK _ _ ?_
              clear hK K
              obtain ⟨gv49, cv49, hv49⟩ := m_shape hM49
              subst hv49
              refine wpAnyIn_ready (rs := [0, 9]) (by kernel_rfl) (by simp) ?_
              refine AllReadyIn.cons rfl (fun K hK => ?_) ?_
              · skip
                have hld50 := (bS.kept hg49 (by simp)).cell
                go_simp
                refine hK _ _ ?_
                clear hK K
                refine wpAnyIn_ready (rs := [9]) (by kernel_rfl) (by simp) ?_
                refine AllReadyIn.cons rfl (fun K hK => ?_) ?_
                · skip
                  go_simp
                  refine hK _ _ ?_
                  clear hK K
                  refine wpAnyIn_ready (rs := [10]) (by kernel_rfl) (by simp) ?_
                  refine AllReadyIn.cons rfl (fun K hK => ?_) ?_
                  · skip
                    refine step_slot rfl (.tmp 41) (.tmp 50) rfl rfl rfl (Kd.R_grown HRa.out hg49 (fun _ _ => by simp)) (some bs) (.slice (some ⟨gv49, 0, none⟩) bs.length cv49) (fun k => Wa.heap.size ≤ k) (sk_lower hM49 hza) (HOK.out) (Nat.le_trans hza hg49.size) (by omega) (fun v9 W9 hR9 hg9 => ?_)
                    refine hK _ _ ?_
                    clear hK K
                    have HG9 : Aside0 (Wa.grownBy W9 (Value.slice Av s.length cv).ownBlock) := ⟨World.grownBy.trans (hg49.weak _) hg9⟩
                    have bS9 := box_keep bS HRa.out HG9.out (show w.heap.size + 1 < W0.heap.size by omega)
                    have hcS9 := bS9.cell
                    have hfS9 := bS9.frozen
                    obtain ⟨Av9, cv9, hv9⟩ := Kd.R_slice hR9
                    rw [List.length_append, List.length_singleton] at hv9
                    subst hv9
                    have HR9 := Aside0.mk hR9
                    clear hR9 hg9
                    refine wpAnyIn_ready (rs := [11]) (by kernel_rfl) (by simp) ?_
                    refine AllReadyIn.cons rfl (fun K hK => ?_) ?_
                    · skip
                      go_simp
                      refine hK _ _ ?_
                      clear hK K
                      refine wpAnyIn_done (by kernel_rfl) ?_ _
                      gi_wp2
                      exact HFIN.out _ _ HR9.out HG9.out
                    exact AllReadyIn.nil
                  exact AllReadyIn.nil
                exact AllReadyIn.nil
              refine AllReadyIn.cons rfl (fun K hK => ?_) ?_
              · skip
                go_simp
                refine hK _ _ ?_
                clear hK K
                refine wpAnyIn_ready (rs := [0]) (by kernel_rfl) (by simp) ?_
                refine AllReadyIn.cons rfl (fun K hK => ?_) ?_
                · skip
                  have hld55 := (bS.kept hg49 (by simp)).cell
                  have hld55' := ((bS.kept hg49 (by simp)).alloc (.cells #[(.slice (some ⟨gv49, 0, none⟩) bs.length cv49)] 22)).cell
                  go_simp
                  refine hK _ _ ?_
                  clear hK K
                  refine wpAnyIn_ready (rs := [10]) (by kernel_rfl) (by simp) ?_
                  refine AllReadyIn.cons rfl (fun K hK => ?_) ?_
                  · skip
                    refine step_slot rfl (.tmp 41) (.tmp 50) rfl rfl rfl (Kd.R_grown HRa.out hg49 (fun _ _ => by simp)) (some bs) (.slice (some ⟨gv49, 0, none⟩) bs.length cv49) (fun k => Wa.heap.size ≤ k) (sk_lower hM49 hza) (HOK.out) (Nat.le_trans hza hg49.size) (by omega) (fun v9 W9 hR9 hg9 => ?_)
                    refine hK _ _ ?_
                    clear hK K
                    have HG9 : Aside0 (Wa.grownBy W9 (Value.slice Av s.length cv).ownBlock) := ⟨World.grownBy.trans (hg49.weak _) hg9⟩
                    have bS9 := box_keep bS HRa.out HG9.out (show w.heap.size + 1 < W0.heap.size by omega)
                    have hcS9 := bS9.cell
                    have hfS9 := bS9.frozen
                    obtain ⟨Av9, cv9, hv9⟩ := Kd.R_slice hR9
                    rw [List.length_append, List.length_singleton] at hv9
                    subst hv9
                    have HR9 := Aside0.mk hR9
                    clear hR9 hg9
                    refine wpAnyIn_ready (rs := [11]) (by kernel_rfl) (by simp) ?_
                    refine AllReadyIn.cons rfl (fun K hK => ?_) ?_
                    · skip
                      go_simp
                      refine hK _ _ ?_
                      clear hK K
                      refine wpAnyIn_done (by kernel_rfl) ?_ _
                      gi_wp2
                      exact HFIN.out _ _ HR9.out HG9.out
                    exact AllReadyIn.nil
                  exact AllReadyIn.nil
                exact AllReadyIn.nil
              exact AllReadyIn.nil
            exact AllReadyIn.nil
          exact AllReadyIn.nil
        exact AllReadyIn.nil
  case done =>
    have hbz : w.heap.size + 4 < W0.heap.size := by have := HSZ.out; omega
    have HBZ := Aside0.mk hbz
    clear hbz
    rintro D ys W hD rfl ⟨s, left, v, hcoll, hl0, hl1, hsl, bP, bS, bO, bL, hR, hz, hB⟩ hK
    obtain ⟨hk1, hk2, hk3⟩ := coll_keeps (Kd.C_len HP.out) hby cnt s left hcoll
    obtain ⟨Av, cv, hv, hcv, hC⟩ := Kd.R_reads hR
    subst hv
    have hcS := bS.cell
    have hfS := bS.frozen
    have hcP := bP.cell
    have hcO := bO.cell
    have hfO := bO.frozen
    have hrl : readL p = if roomL s < 0 ∨ pageL s ≠ p then none else some s := by
      unfold readL
      rw [if_neg (by rw [Kd.C_len HP.out, HN.out]; omega), HN.out, Int.toNat_natCast, hcoll]
      rfl
    have HRL := Aside0.mk hrl
    have HC := Aside0.mk hC
    have HR := Aside0.mk hR
    have HBY := Aside0.mk hk2
    have HK := Aside0.mk hK
    have HB := Aside0.mk hB
    have hsz2 : sizes s ≤ 504 := by omega
    have hsl2 : s.length ≤ 125 := by omega
    have HK3 := Aside0.mk hk3
    have HSL := Aside0.mk hsl
    clear hrl hC hR hk2 hK hB hk3 hcoll hk1 hsl
    by_cases hroom : roomL s < 0
    · obtain ⟨rm, hrm⟩ : ∃ rm, rm = roomL s := ⟨_, rfl⟩
      rw [← hrm] at hroom
      have HRM := Aside0.mk hrm
      clear hrm
      gi_wp2_with (fail)
      refine wpIn_only ?_
      gi_region_with_o (first
        | ((refine ⟨trivial, ?_⟩); gi_at_call 28; (with_reducible refine (callsIn_wide.2 (room_any _ Av s.length cv s ?hcc hcv (by omega) (by omega))).mono ?_); (case hcc => exact Kd.C_drew HC.out); rintro e w2 ⟨rfl, hd2⟩; obtain ⟨m2, rfl⟩ := hd2.out; rw [← HRM.out])
        | (refine ⟨trivial, ?_⟩))
      all_goals
        refine only_mk ?_
        gi_wp2_with (fail)
        have he := end_cells HBZ.out hD (show Boxed (W.drewN (1 + m2)) _ _ _ from bS) (show Boxed (W.drewN (1 + m2)) _ _ _ from bO) HK.out (pw_below_drewN HB.out (1 + m2)) (.slice none 0 0) (.bool false)
        refine ⟨by simp, .inl ⟨_, _, rfl, run_takeDeferred he.1, .tuple #[.slice none 0 0, .bool false], by simp [results, Try.results26, go_sem, he.2.1, he.2.2.1], ⟨by rw [HRL.out, if_pos (.inl (by rw [← HRM.out]; exact hroom))]; rfl⟩, ⟨he.2.2.2.1⟩⟩⟩
    · have hfit2 : Fits s := by unfold Fits; unfold roomL at hroom; omega
      have HFIT := Aside0.mk hfit2
      obtain ⟨rm, hrm⟩ : ∃ rm, rm = roomL s := ⟨_, rfl⟩
      rw [← hrm] at hroom
      have HRM := Aside0.mk hrm
      have hd1 : decide (rm < 0) = false := decide_eq_false hroom
      obtain ⟨eq, heq⟩ : ∃ b, b = decide (pageL s = p) := ⟨_, rfl⟩
      have HEQ := Aside0.mk heq
      clear hrm heq hfit2
      gi_wp2_with (fail)
      refine wpIn_only ?_
      gi_region_with_o (first
        | ((refine ⟨trivial, ?_⟩); gi_at_call 28; (with_reducible refine (callsIn_wide.2 (room_any _ Av s.length cv s ?hcc hcv (by omega) (by omega))).mono ?_); (case hcc => exact Kd.C_drew HC.out); rintro e w2 ⟨rfl, hd2⟩; obtain ⟨m2, rfl⟩ := hd2.out; rw [← HRM.out])
        | ((refine ⟨trivial, ?_⟩); gi_at_call 30; (with_reducible refine (callsIn_wide.2 (page_any _ Av s.length cv s ?hcd hcv HFIT.out HBY.out)).mono ?_); (case hcd => exact Kd.C_drewN HC.out _); rintro e w4 ⟨v4, rfl, HR4, HB4⟩; have bP4 := box_below (show Boxed (W.drewN (1 + m2)) _ _ _ from bP) HB4.out; have hcP4 := bP4.cell; obtain ⟨A4, c4, hv4⟩ := Kd.R_slice HR4.out; subst hv4)
        | ((refine ⟨trivial, ?_⟩); gi_at_call 37; (with_reducible refine (callsIn_wide.2 (equal_any _ A4 A (pageL s).length 512 c4 c (pageL s) p ?hce ?hcf ?hcg hc ?hch)).mono ?_); (case hce => exact (Kd.R_reads' HR4.out).2.2); (case hcf => exact Kd.C_below HP.out ((pw_below_drewN HB.out (1 + m2)).trans (HB4.out.mono HB.out.size))); (case hcg => exact (Kd.R_reads' HR4.out).2.1); (case hch => rw [pageL_length HFIT.out]; omega); rintro e w5 ⟨rfl, hd5⟩; obtain ⟨m5, rfl⟩ := hd5.out; rw [← HEQ.out])
        | (refine ⟨trivial, ?_⟩))
      all_goals
        refine only_mk ?_
        have bS4 := box_below (show Boxed (W.drewN (1 + m2)) _ _ _ from bS) HB4.out
        have bO4 := box_below (show Boxed (W.drewN (1 + m2)) _ _ _ from bO) HB4.out
        have hcS4 := bS4.cell
        have hfS4 := bS4.frozen
        have hcO4 := bO4.cell
        have hfO4 := bO4.frozen
        have hb5 : Below w.heap.size w (w4.drewN m5) := pw_below_drewN ((pw_below_drewN HB.out (1 + m2)).trans (HB4.out.mono HB.out.size)) m5
        have hk5 : (w4.drewN m5).heap[D]? = some (.deferred (some [])) := (HB4.out.block D (Array.getElem?_eq_some_iff.1 HK.out).1).trans HK.out
        have HB5 := Aside0.mk hb5
        have HK5 := Aside0.mk hk5
        have HR5 : Aside0 (SK.R 22 (w4.drewN m5) W0.heap.size (fun k => W0.heap.size ≤ k) (.slice Av s.length cv) s) := ⟨Kd.R_below HR.out (pw_below_drewN ((pw_below_drewN (Below.refl _ W) (1 + m2)).trans HB4.out) m5)⟩
        clear hb5 hk5
        cases eq with
        | false =>
          gi_wp2_with (fail)
          have he := end_cells HBZ.out hD (show Boxed (w4.drewN m5) _ _ _ from bS4) (show Boxed (w4.drewN m5) _ _ _ from bO4) HK5.out HB5.out (.slice none 0 0) (.bool false)
          refine ⟨by simp, .inl ⟨_, _, rfl, run_takeDeferred he.1, .tuple #[.slice none 0 0, .bool false], by simp [results, Try.results26, go_sem, he.2.1, he.2.2.1], ⟨by rw [HRL.out, if_pos (.inr (of_decide_eq_false HEQ.out.symm))]; rfl⟩, ⟨he.2.2.2.1⟩⟩⟩
        | true =>
          gi_wp2_with (fail)
          have he := end_cells HBZ.out hD (show Boxed (w4.drewN m5) _ _ _ from bS4) (show Boxed (w4.drewN m5) _ _ _ from bO4) HK5.out HB5.out (.slice Av s.length cv) (.bool true)
          have hq : ¬ (roomL s < 0 ∨ pageL s ≠ p) := by
            rintro (h | h)
            · rw [← HRM.out] at h; omega
            · exact h (of_decide_eq_true HEQ.out.symm)
          refine ⟨by simp, .inl ⟨_, _, rfl, run_takeDeferred he.1, .tuple #[.slice Av s.length cv, .bool true], by simp [results, Try.results26, go_sem, he.2.1, he.2.2.1], ⟨by rw [HRL.out, if_neg hq]; exact ⟨_, rfl, he.2.2.2.2 s HR5.out⟩⟩, ⟨he.2.2.2.1⟩⟩⟩
  case stop =>
    rintro D c' pre W hD ⟨k, hk, rfl⟩ ⟨rfl, hc0, bS, bO, hB⟩ hK
    have hrl : readL p = none := by
      unfold readL
      rw [if_neg (by rw [Kd.C_len HP.out, HN.out]; omega), HN.out, Int.toNat_natCast, coll_none p hk hc0]
      rfl
    have HRL := Aside0.mk hrl
    have HB := Aside0.mk hB
    have hg := grownBy_putObj' W D (.deferred none)
    have hrow : ∀ r, some D = some r → ∃ o : Obj, W.heap[r]? = some o ∧ o.isCells = false := fun r e => by cases e; exact ⟨_, hK, rfl⟩
    have hcS := (bS.kept hg (not_row bS hrow)).cell
    have hcO := (bO.kept hg (not_row bO hrow)).cell
    have hwD : w.heap.size ≤ D := by omega
    clear hrl hg hrow hB hc0
    gi_wp2_with (fail)
    refine ⟨by simp, .inl ⟨_, _, rfl, run_takeDeferred hK, .tuple #[.slice none 0 0, .bool false], by simp [results, Try.results26, go_sem, hcS, hcO], ⟨by rw [HRL.out]; rfl⟩, ⟨HB.out.trans (belowK_b (w := w) (Nat.le_refl _) W D _ _ hwD hK rfl rfl)⟩⟩⟩

end Go.Proofs.Ytbffeibcndbmgaa.Pg

/-! ## ReadAny -/
set_option linter.unusedVariables false
set_option linter.unusedSimpArgs false
namespace Go.Proofs.Ytbffeibcndbmgaa.Pg
open Go.RowKit Go.Shelf Go.Proofs.YtbffeibcndbmgaaW.PrintWords Go.Proofs.YtbffeibcndbmgaaW.PrintLast Go.Proofs.YtbffeibcndbmgaaW.PrintMore Go.Proofs.Ytbffeibcndbmgaa.PPageSteps

theorem read_any (w : World) (A : Option Addr) (n c : Nat) (p : List Int) (hp : Kd.C (Kd.int .u8) w A n p) (hc : n ≤ c) (hby : Bytes p) :
    Calls Try.prog 26 #[.slice A n c] w fun e w' => Aside0 (ReadPost (readL p) w.heap.size e w') ∧ Aside0 (Below w.heap.size w w') := by
  have hl := Kd.C_len hp
  by_cases h1 : n = 512
  · subst h1
    have hr := num2_range hby (by omega)
    by_cases h2 : 2 + 4 * num2 p > 504
    · refine (read_bad w A c p hp hc hby h2 hr.2).mono ?_
      rintro e w' ⟨rfl, h⟩
      refine ⟨⟨?_⟩, h⟩
      unfold readL
      rw [if_pos (.inr h2)]
      rfl
    · exact read_main w A c p hp hc hby (num2 p).toNat (by omega) (by omega)
  · refine (read_short w A n c p hp hc h1).mono ?_
    rintro e w' ⟨rfl, h⟩
    refine ⟨⟨?_⟩, h⟩
    unfold readL
    rw [if_pos (.inl (by omega))]
    rfl

/-- what comes of reading has room, and is of bytes. -/
theorem readL_some {p : List Int} {s : Slots} (hb : Bytes p) (h : readL p = some s) : p.length = 512 ∧ Fits s ∧ (∀ r, some r ∈ s → Bytes r) ∧ pageL s = p ∧ s.length ≤ 125 := by
  unfold readL at h
  split at h
  · cases h
  · rename_i h1
    obtain ⟨⟨s', left⟩, h2, h3⟩ := Option.bind_eq_some_iff.1 h
    simp only at h3
    split at h3
    · cases h3
    · rename_i h4
      cases h3
      have hl : p.length = 512 := by omega
      obtain ⟨a, b, c⟩ := coll_keeps hl hb _ _ _ h2
      have hf : Fits s := by unfold Fits; unfold roomL at h4; omega
      refine ⟨hl, hf, b, ?_, by unfold Fits at hf; omega⟩
      exact Classical.byContradiction fun h => h4 (.inr h)

end Go.Proofs.Ytbffeibcndbmgaa.Pg

/-! ## Looks -/
set_option linter.unusedVariables false
set_option linter.unusedSimpArgs false
namespace Go.Proofs.Ytbffeibcndbmgaa.Pg
open Go.RowKit Go.Shelf Go.Proofs.YtbffeibcndbmgaaW.PrintWords Go.Proofs.YtbffeibcndbmgaaW.PrintLast Go.Proofs.YtbffeibcndbmgaaW.PrintMore Go.Proofs.Ytbffeibcndbmgaa.PPageSteps

theorem read_none (w : World) (A : Option Addr) (n c : Nat) (p : List Int) (hp : Kd.C (Kd.int .u8) w A n p) (hc : n ≤ c) (hby : Bytes p) (h : readL p = none) :
    Calls Try.prog 26 #[.slice A n c] w fun e w' => e = .returned (.tuple #[.slice none 0 0, .bool false]) ∧ Aside0 (Below w.heap.size w w') := by
  refine (read_any w A n c p hp hc hby).mono ?_
  rintro e w' ⟨⟨h1⟩, h2⟩
  rw [h] at h1
  exact ⟨h1, h2⟩
theorem read_yes (w : World) (A : Option Addr) (n c : Nat) (p : List Int) (s : Slots) (hp : Kd.C (Kd.int .u8) w A n p) (hc : n ≤ c) (hby : Bytes p) (h : readL p = some s) :
    Calls Try.prog 26 #[.slice A n c] w fun e w' => ∃ v, e = .returned (.tuple #[v, .bool true]) ∧ Aside0 (SK.R 22 w' w.heap.size (fun _ => True) v s) ∧ Aside0 (Below w.heap.size w w') := by
  refine (read_any w A n c p hp hc hby).mono ?_
  rintro e w' ⟨⟨h1⟩, h2⟩
  rw [h] at h1
  obtain ⟨v, he, hv⟩ := h1
  exact ⟨v, he, ⟨hv⟩, h2⟩

/-- slots of one's own, one by one. -/
theorem sk_at {w : World} {base : Nat} {ok : Nat → Prop} {A : Option Addr} {n c : Nat} {s : Slots} (h : SK.R 22 w base ok (.slice A n c) s) (i : Nat) (hi : i < s.length) :
    ∃ g u, A = some ⟨g, 0, none⟩ ∧ n = s.length ∧ w.cell? ⟨g, i, none⟩ = some u ∧ w.frozen? ⟨g, i, none⟩ = false ∧ base ≤ g ∧ SK.M w base (fun k => ok k ∧ k ≠ g) (s.getD i none) [u] := by
  obtain ⟨h0, inner, hown, hr⟩ := h
  have hnl : n = s.length := by
    rcases hown.2 with ⟨h1, h2⟩ | ⟨g, cap, cur, h1, _⟩
    · omega
    · injection h1
  subst hnl
  obtain ⟨g, cap, he, _, _⟩ := hown.form (by omega)
  injection he with he _ hcap
  subst he
  have hil : i < inner.length := by have := hr.1; show i < inner.length; rw [this]; show i < s.length * 1; omega
  have hm := hr.2 i (s[i]) (List.getElem?_eq_getElem hi)
  have hcell := hown.cells (g := g) rfl i _ (List.getElem?_eq_getElem hil)
  rw [add_plain] at hcell
  have hfr : w.frozen? ⟨g, i, none⟩ = false := by
    rcases hown.2 with ⟨h1, _⟩ | ⟨g', cap', cur, h1, _, hh, _⟩
    · cases h1
    · injection h1 with h1
      injection h1 with h1
      injection h1 with h1
      subst h1
      exact blk_frozen hh i
  refine ⟨g, inner[i], rfl, rfl, hcell, hfr, own_base hown g rfl, ?_⟩
  have e : (inner.drop (i * SK.sz)).take SK.sz = [inner[i]] := by
    show (inner.drop (i * 1)).take 1 = _
    rw [Nat.mul_one, List.drop_eq_getElem_cons hil]
    rfl
  rw [e] at hm
  rw [List.getD_eq_getElem?_getD, List.getElem?_eq_getElem hi]
  exact SK.M_mono (fun k hk => ⟨hk.1, fun e => hk.2 (by rw [e]; rfl)⟩) hm

/-- the record in a slot of a page. -/
def getL (p : List Int) (i : Int) : Option (List Int) := if 0 ≤ i then (((readL p).getD []).getD i.toNat none) else none
def rightL (p : List Int) : Bool := (readL p).isSome
def slotsL (p : List Int) : Int := ((readL p).getD []).length
def roomP (p : List Int) : Int := match readL p with | none => 0 | some s => roomL s

set_option maxHeartbeats 2000000 in
theorem right_any (w : World) (A : Option Addr) (n c : Nat) (p : List Int) (hp : Kd.C (Kd.int .u8) w A n p) (hc : n ≤ c) (hby : Bytes p) :
    Calls Try.prog 9 #[.slice A n c] w fun e w' => e = .returned (.bool (rightL p)) ∧ Aside0 (Below w.heap.size w w') := by
  have HP := Aside0.mk hp
  clear hp
  unfold rightL
  cases h : readL p with
  | none =>
    have H := Aside0.mk h
    clear h
    go_enter Try.func9, Try.ntmps9
    go_wp2_with (go_at_call 26; refine (read_none _ A n c p HP.out hc hby H.out).mono ?_; rintro e w' ⟨rfl, hB⟩)
    go_ret
    exact ⟨rfl, hB⟩
  | some s =>
    have H := Aside0.mk h
    clear h
    go_enter Try.func9, Try.ntmps9
    go_wp2_with (go_at_call 26; refine (read_yes _ A n c p s HP.out hc hby H.out).mono ?_; rintro e w' ⟨v, rfl, hR, hB⟩)
    go_ret
    exact ⟨rfl, hB⟩

set_option maxHeartbeats 2000000 in
theorem slots_any (w : World) (A : Option Addr) (n c : Nat) (p : List Int) (hp : Kd.C (Kd.int .u8) w A n p) (hc : n ≤ c) (hby : Bytes p) :
    Calls Try.prog 11 #[.slice A n c] w fun e w' => e = .returned (.int .i64 (slotsL p)) ∧ Aside0 (Below w.heap.size w w') := by
  have HP := Aside0.mk hp
  clear hp
  unfold slotsL
  cases h : readL p with
  | none =>
    have H := Aside0.mk h
    clear h
    go_enter Try.func11, Try.ntmps11
    go_wp2_with (go_at_call 26; refine (read_none _ A n c p HP.out hc hby H.out).mono ?_; rintro e w' ⟨rfl, hB⟩)
    go_ret
    exact ⟨rfl, hB⟩
  | some s =>
    have H := Aside0.mk h
    clear h
    go_enter Try.func11, Try.ntmps11
    go_wp2_with (go_at_call 26; refine (read_yes _ A n c p s HP.out hc hby H.out).mono ?_; rintro e w' ⟨v, rfl, hR, hB⟩; obtain ⟨Av, cv, rfl⟩ := Kd.R_slice hR.out)
    go_ret
    exact ⟨rfl, hB⟩

set_option maxHeartbeats 2000000 in
theorem room_page (w : World) (A : Option Addr) (n c : Nat) (p : List Int) (hp : Kd.C (Kd.int .u8) w A n p) (hc : n ≤ c) (hby : Bytes p) :
    Calls Try.prog 13 #[.slice A n c] w fun e w' => e = .returned (.int .i64 (roomP p)) ∧ Aside0 (Below w.heap.size w w') := by
  have HP := Aside0.mk hp
  clear hp
  unfold roomP
  cases h : readL p with
  | none =>
    have H := Aside0.mk h
    clear h
    go_enter Try.func13, Try.ntmps13
    go_wp2_with (go_at_call 26; refine (read_none _ A n c p HP.out hc hby H.out).mono ?_; rintro e w' ⟨rfl, hB⟩)
    go_ret
    exact ⟨rfl, hB⟩
  | some s =>
    obtain ⟨_, hf, _, _, hl⟩ := readL_some hby h
    have hz : sizes s ≤ 504 := by unfold Fits at hf; omega
    have H := Aside0.mk h
    clear h hf
    go_enter Try.func13, Try.ntmps13
    go_wp2_with (first
      | (go_at_call 26; refine (read_yes _ A n c p s HP.out hc hby H.out).mono ?_; rintro e w' ⟨v, rfl, hR, hB⟩; obtain ⟨Av, cv, hv, hcv, hCv⟩ := Kd.R_reads hR.out; subst hv; have HCV := Aside0.mk hCv; clear hCv)
      | (go_at_call 28; refine (room_any _ Av s.length cv s HCV.out hcv (by omega) (by omega)).mono ?_; rintro e w2 ⟨rfl, hd⟩; obtain ⟨m, rfl⟩ := hd.out))
    go_ret
    exact ⟨rfl, ⟨pw_below_drewN hB.out m⟩⟩

/-- what Get answers. -/
def GetPost (o : Option (List Int)) (base : Nat) (e : Ending) (w' : World) : Prop := match o with
  | none => e = .returned (.tuple #[.slice none 0 0, .bool false])
  | some r => ∃ v, e = .returned (.tuple #[v, .bool true]) ∧ Kd.R (Kd.int .u8) 5 w' base (fun _ => True) v r

set_option maxHeartbeats 4000000 in
theorem get_any (w : World) (A : Option Addr) (n c : Nat) (p : List Int) (i : Int) (hp : Kd.C (Kd.int .u8) w A n p) (hc : n ≤ c) (hby : Bytes p) :
    Calls Try.prog 7 #[.slice A n c, .int .i64 i] w fun e w' => Aside0 (GetPost (getL p i) w.heap.size e w') ∧ Aside0 (Below w.heap.size w w') := by
  have HP := Aside0.mk hp
  clear hp
  have hsn := fun (w : World) (a : Option Addr) (n c : Nat) => Lib.run_eql_slice_nil (P := Try.prog) w 22 5 a n c 0 0 Try.underlying22
  unfold getL
  cases h : readL p with
  | none =>
    have H := Aside0.mk h
    clear h
    have hg : (if 0 ≤ i then (((none : Option Slots).getD []).getD i.toNat none) else none) = none := by split <;> simp
    rw [hg]
    clear hg
    by_cases h0 : i < 0
    all_goals
      go_enter Try.func7, Try.ntmps7
      go_wp2_with (go_at_call 26; refine (read_none _ A n c p HP.out hc hby H.out).mono ?_; rintro e w' ⟨rfl, hB⟩)
      go_ret2
      exact ⟨⟨rfl⟩, hB⟩
  | some s =>
    obtain ⟨_, _, _, _, hl⟩ := readL_some hby h
    have H := Aside0.mk h
    clear h
    by_cases h0 : i < 0
    · rw [if_neg (by omega)]
      go_enter Try.func7, Try.ntmps7
      go_wp2_with (go_at_call 26; refine (read_yes _ A n c p s HP.out hc hby H.out).mono ?_; rintro e w' ⟨v, rfl, hR, hB⟩; obtain ⟨Av, cv, hv⟩ := Kd.R_slice hR.out; subst hv)
      go_ret2
      exact ⟨⟨rfl⟩, hB⟩
    · rw [if_pos (by omega)]
      obtain ⟨j, rfl⟩ := Int.eq_ofNat_of_zero_le (show 0 ≤ i by omega)
      rw [Int.toNat_natCast]
      show Calls _ _ _ _ fun e w' => Aside0 (GetPost (s.getD j none) w.heap.size e w') ∧ _
      by_cases h1 : j < s.length
      · cases hx : s.getD j none with
        | none =>
          have HX := Aside0.mk hx
          clear hx
          go_enter Try.func7, Try.ntmps7
          go_wp2_with (go_at_call 26; refine (read_yes _ A n c p s HP.out hc hby H.out).mono ?_; rintro e w' ⟨v, rfl, hR, hB⟩; obtain ⟨Av, cv, hv⟩ := Kd.R_slice hR.out; subst hv; obtain ⟨g, u, rfl, _, hcell, _, _, hM⟩ := sk_at hR.out j h1; rw [HX.out] at hM; obtain rfl : u = .slice none 0 0 := (List.cons.inj hM).1; clear hM)
          go_ret2
          exact ⟨⟨rfl⟩, hB⟩
        | some r =>
          have HX := Aside0.mk hx
          clear hx
          go_enter Try.func7, Try.ntmps7
          go_wp2_with (go_at_call 26; refine (read_yes _ A n c p s HP.out hc hby H.out).mono ?_; rintro e w' ⟨v, rfl, hR, hB⟩; obtain ⟨Av, cv, hv⟩ := Kd.R_slice hR.out; subst hv; obtain ⟨g, u, rfl, _, hcell, _, _, hM⟩ := sk_at hR.out j h1; rw [HX.out] at hM; obtain ⟨gu, cu, hu⟩ := m_shape hM; subst hu; have HM := Aside0.mk hM; clear hM)
          go_ret2
          obtain ⟨u, he, _, hRu⟩ := HM.out
          injection he with he
          subst he
          exact ⟨⟨_, rfl, Kd.R_mono hRu (fun _ _ => trivial)⟩, hB⟩
      · have hx : s.getD j none = none := by rw [List.getD_eq_getElem?_getD, List.getElem?_eq_none (by omega)]; rfl
        rw [hx]
        clear hx
        go_enter Try.func7, Try.ntmps7
        go_wp2_with (go_at_call 26; refine (read_yes _ A n c p s HP.out hc hby H.out).mono ?_; rintro e w' ⟨v, rfl, hR, hB⟩; obtain ⟨Av, cv, hv⟩ := Kd.R_slice hR.out; subst hv)
        go_ret2
        exact ⟨⟨rfl⟩, hB⟩

set_option maxHeartbeats 2000000 in
theorem new_any (w : World) :
    Calls Try.prog 15 #[] w fun e w' => ∃ v, e = .returned v ∧ Aside0 (Kd.R (Kd.int .u8) 5 w' w.heap.size (fun _ => True) v (pageL [])) ∧ Aside0 (Below w.heap.size w w') := by
  have hc : ∀ A W, SK.C W A 0 [] := fun A W => ⟨rfl, by omega, fun h => absurd h (by omega)⟩
  go_enter Try.func15, Try.ntmps15
  go_wp2_with (go_at_call 30; refine (page_any _ _ 0 0 [] (hc _ _) (Nat.le_refl _) (by unfold Fits; simp [sizes]) (fun r hr => by simp at hr)).mono ?_; rintro e w' ⟨v, rfl, hR, hB⟩)
  go_ret
  exact ⟨v, rfl, ⟨Kd.R_lower hR.out (by simp)⟩, ⟨((Below.refl _ w).alloc (Nat.le_refl _) _).trans (hB.out.mono (by simp))⟩⟩

end Go.Proofs.Ytbffeibcndbmgaa.Pg

/-! ## Index -/
set_option linter.unusedVariables false
set_option linter.unusedSimpArgs false
namespace Go.Proofs.Ytbffeibcndbmgaa.Pg
open Go.RowKit Go.Shelf Go.Proofs.YtbffeibcndbmgaaW.PrintWords Go.Proofs.YtbffeibcndbmgaaW.PrintLast Go.Proofs.YtbffeibcndbmgaaW.PrintMore Go.Proofs.Ytbffeibcndbmgaa.PPageSteps

/-- the first slot without a record; without such a one: their number. -/
def free : Slots → Nat
  | [] => 0
  | none :: _ => 0
  | some _ :: l => free l + 1
theorem free_le (s : Slots) : free s ≤ s.length := by
  induction s with
  | nil => simp [free]
  | cons x l ih => cases x <;> simp [free]; omega
theorem free_none (s : Slots) (h : free s < s.length) : s.getD (free s) none = none := by
  induction s with
  | nil => simp at h
  | cons x l ih =>
    cases x with
    | none => simp [free]
    | some r => simp [free] at h ⊢; simpa using ih h
def idx (s : Slots) : Int := if free s < s.length then (free s : Int) else -1
theorem drop_slot (s : Slots) (j : Nat) (h : j < s.length) : s.drop j = s.getD j none :: s.drop (j + 1) := by
  rw [List.drop_eq_getElem_cons h, List.getD_eq_getElem?_getD, List.getElem?_eq_getElem h]
  rfl

theorem isnil_yes (w : World) : Calls Try.prog 33 #[.slice none 0 0] w fun e w' => e = .returned (.bool true) ∧ w' = w := by
  have hsn := fun (w : World) (a : Option Addr) (n c : Nat) => Lib.run_eql_slice_nil (P := Try.prog) w 22 5 a n c 0 0 Try.underlying22
  go_enter Try.func33, Try.ntmps33
  go_wp2
  go_ret
  exact ⟨rfl, rfl⟩
theorem isnil_no (w : World) (a : Addr) (n c : Nat) : Calls Try.prog 33 #[.slice (some a) n c] w fun e w' => e = .returned (.bool false) ∧ w' = w := by
  have hsn := fun (w : World) (a : Option Addr) (n c : Nat) => Lib.run_eql_slice_nil (P := Try.prog) w 22 5 a n c 0 0 Try.underlying22
  go_enter Try.func33, Try.ntmps33
  go_wp2
  go_ret
  exact ⟨rfl, rfl⟩

set_option maxHeartbeats 2000000 in
theorem index_any (w : World) (A : Option Addr) (n c : Nat) (s : Slots) (hC : SK.C w A n s) (hn : n ≤ 1000) :
    Calls Try.prog 32 #[.slice A n c, .func (.func 33) #[] #[]] w fun e w' => e = .returned (.int .i64 (idx s)) ∧ w' = w := by
  have HC := Aside0.mk hC
  have hln : s.length = n := hC.1
  have HL := Aside0.mk hln
  clear hC hln
  go_enter Try.func32, Try.ntmps32
  go_wp2_with fail
  go_loopw [8] (fun i wr => ∃ j : Nat, j ≤ n ∧ i = .int .i64 j ∧ Aside0 (free s = j + free (s.drop j)) ∧ wr = w) (fun i _ => n - (intOf i).toNat)
  case atStart => exact ⟨0, Nat.zero_le _, rfl, ⟨by simp⟩, rfl⟩
  case round =>
    obtain ⟨j, hj, rfl, HF, rfl⟩ := hrel
    by_cases hlt : j < n
    · obtain ⟨ad, rfl, h⟩ := at_opt HC.out j hlt
      have HD := Aside0.mk (drop_slot s j (by rw [HL.out]; exact hlt))
      rcases h with ⟨hx, hcell⟩ | ⟨r, a, cc, hx, hcell, hlc, hr⟩
      · have HX := Aside0.mk hx
        clear hx
        go_wp2_with (go_at_call 33; refine (isnil_yes _).mono ?_; rintro e w' ⟨rfl, rfl⟩)
        go_ret
        refine ⟨?_, rfl⟩
        have h1 := HF.out
        rw [HD.out, HX.out] at h1
        simp only [free] at h1
        unfold idx
        rw [if_pos (by rw [h1, HL.out]; omega), h1]
        simp
      · have HX := Aside0.mk hx
        clear hx hr
        go_wp2_with (go_at_call 33; refine (isnil_no _ _ _ _).mono ?_; rintro e w' ⟨rfl, rfl⟩)
        go_roundw
        case rel =>
          refine ⟨j + 1, by omega, by go_num, ⟨?_⟩, by trivial⟩
          have h1 := HF.out
          rw [HD.out, HX.out] at h1
          simp only [free] at h1
          omega
        case measure => simp [intOf]; omega
    · obtain rfl : j = n := by omega
      go_wp2
      go_ret
      refine ⟨?_, rfl⟩
      have h1 := HF.out
      rw [List.drop_of_length_le (by rw [HL.out]; exact Nat.le_refl _)] at h1
      simp only [free] at h1
      unfold idx
      rw [if_neg (by rw [h1, HL.out]; omega)]
      rfl

end Go.Proofs.Ytbffeibcndbmgaa.Pg

/-! ## Change -/
set_option linter.unusedVariables false
set_option linter.unusedSimpArgs false
namespace Go.Proofs.Ytbffeibcndbmgaa.Pg
open Go.RowKit Go.Shelf Go.Proofs.YtbffeibcndbmgaaW.PrintWords Go.Proofs.YtbffeibcndbmgaaW.PrintLast Go.Proofs.YtbffeibcndbmgaaW.PrintMore Go.Proofs.Ytbffeibcndbmgaa.PPageSteps

/-- a slot is written: its record has been made behind the slots' row. -/
theorem sk_set {W : World} {base : Nat} {ok : Nat → Prop} {g n c : Nat} {s : Slots} (h : SK.R 22 W base ok (.slice (some ⟨g, 0, none⟩) n c) s) (i : Nat) (hi : i < s.length) (x : Option (List Int)) (u : Value)
    (okp : Nat → Prop) (hM : SK.M W base okp x [u]) (hok : ∀ k, okp k → ok k ∧ k ≠ g) :
    SK.R 22 (W.setCell ⟨g, i, none⟩ u) base ok (.slice (some ⟨g, 0, none⟩) n c) (s.set i x) := by
  obtain ⟨g', u0, he, hn, hcell, _, _, _⟩ := sk_at h i hi
  injection he with he
  injection he with he
  subst he hn
  have e1 : SK.sz = 1 := rfl
  have h2 := (Kd.R_seg (d := SK) (j := 0) (seg := [u]) (c := [u0]) (x' := x) (okp := okp) h (i : Int) (by omega) (by omega) rfl (by
    intro j v hv
    cases j with
    | zero => simp at hv; subst hv; simpa [e1] using hcell
    | succ j => simp at hv) (by show 0 + 1 ≤ 1; omega) (by simpa using hM) hok).1
  simpa [World.setCells, e1] using h2

theorem sizes_set : ∀ (s : Slots) (k : Nat) (r : List Int), k < s.length → s.getD k none = none → sizes (s.set k (some r)) = sizes s + r.length
  | [], k, r, h, _ => by simp at h
  | x :: l, 0, r, h, hn => by
    obtain rfl : x = none := hn
    simp [sizes]
    omega
  | x :: l, k + 1, r, h, hn => by
    have := sizes_set l k r (by simpa using h) hn
    simp only [List.set_cons_succ, sizes, this]
    omega
theorem sizes_gone : ∀ (s : Slots) (k : Nat), sizes (s.set k none) ≤ sizes s
  | [], k => by simp [sizes]
  | x :: l, 0 => by simp [sizes]
  | x :: l, k + 1 => by
    have := sizes_gone l k
    simp only [List.set_cons_succ, sizes]
    omega
theorem mem_set {α : Type} {l : List α} {k : Nat} {x y : α} (h : y ∈ l.set k x) : y ∈ l ∨ y = x := List.mem_or_eq_of_mem_set h

/-- slots with one without a record. -/
def grow (s : Slots) : Slots := if free s < s.length then s else s ++ [none]
theorem grow_length (s : Slots) : free s < (grow s).length ∧ (grow s).length ≤ s.length + 1 := by
  have := free_le s
  unfold grow
  split
  · omega
  · rw [List.length_append]; simp; omega
theorem grow_none (s : Slots) : (grow s).getD (free s) none = none := by
  have h := free_le s
  unfold grow
  split
  · rename_i h1
    exact free_none s h1
  · have e : free s = s.length := by omega
    rw [e, List.getD_eq_getElem?_getD, List.getElem?_append_right (Nat.le_refl _)]
    simp
theorem grow_sizes (s : Slots) : sizes (grow s) = sizes s := by
  unfold grow
  split
  · rfl
  · rw [sizes_append]; simp [sizes]
theorem grow_mem {s : Slots} {r : List Int} (h : some r ∈ grow s) : some r ∈ s := by
  unfold grow at h
  split at h
  · exact h
  · rcases List.mem_append.1 h with h | h
    · exact h
    · simp at h
theorem put_fits {s : Slots} {k : Nat} {r : List Int} (hk : k < s.length) (hn : s.getD k none = none) (hr : (r.length : Int) ≤ roomL s) : Fits (s.set k (some r)) := by
  unfold Fits roomL at *
  rw [List.length_set, sizes_set s k r hk hn]
  omega

def insertL (p r : List Int) : List Int × Int × Int := match readL p with
  | none => ([], 0, 21)
  | some s => if (r.length : Int) > roomL (grow s) then ([], 0, 7) else (pageL ((grow s).set (free s) (some r)), free s, 0)
def badAt (s : Slots) (i : Int) : Bool := decide (i < 0) || decide (i ≥ s.length) || (s.getD i.toNat none).isNone
def updateL (p : List Int) (i : Int) (r : List Int) : List Int × Int := match readL p with
  | none => ([], 21)
  | some s => if badAt s i = true then ([], 3) else if (r.length : Int) > roomL (s.set i.toNat none) then ([], 7) else (pageL ((s.set i.toNat none).set i.toNat (some r)), 0)
def deleteL (p : List Int) (i : Int) : List Int × Int := match readL p with
  | none => ([], 21)
  | some s => if badAt s i = true then ([], 3) else (pageL (s.set i.toNat none), 0)

/-- append([]byte{}, r...): the record, not nil. -/
theorem m_of_row {W : World} {base : Nat} {ok : Nat → Prop} {v : Value} {xs : List Int} (h : Kd.R (Kd.int .u8) 5 W base ok v xs) (hb : ∃ b, v.ownBlock = some b) : SK.M W base ok (some xs) [v] := by
  refine ⟨v, rfl, ?_, h⟩
  rintro rfl
  obtain ⟨b, hb⟩ := hb
  simp [Value.ownBlock] at hb

end Go.Proofs.Ytbffeibcndbmgaa.Pg

/-! ## Insert -/
set_option linter.unusedVariables false
set_option linter.unusedSimpArgs false
namespace Go.Proofs.Ytbffeibcndbmgaa.Pg
open Go.RowKit Go.Shelf Go.Proofs.YtbffeibcndbmgaaW.PrintWords Go.Proofs.YtbffeibcndbmgaaW.PrintLast Go.Proofs.YtbffeibcndbmgaaW.PrintMore Go.Proofs.Ytbffeibcndbmgaa.PPageSteps

/-- what Insert answers. -/
def InsPost (o : List Int × Int × Int) (base : Nat) (e : Ending) (w' : World) : Prop := ∃ v, e = .returned (.tuple #[v, .int .i64 o.2.1, .int .i64 o.2.2]) ∧ Kd.R (Kd.int .u8) 5 w' base (fun _ => True) v o.1

set_option maxHeartbeats 8000000 in
set_option maxRecDepth 100000 in
theorem insert_any (w : World) (A : Option Addr) (n c : Nat) (p : List Int) (A1 : Option Addr) (c1 : Nat) (r : List Int) (hp : Kd.C (Kd.int .u8) w A n p) (hc : n ≤ c) (hby : Bytes p) (hr : Kd.C (Kd.int .u8) w A1 r.length r) (hc1 : r.length ≤ c1) (hbr : Bytes r) (hlr : r.length ≤ 140737488351232) :
    Calls Try.prog 19 #[.slice A n c, .slice A1 r.length c1] w fun e w' => Aside0 (InsPost (insertL p r) w.heap.size e w') ∧ Aside0 (Below w.heap.size w w') := by
  have HP := Aside0.mk hp
  have HR := Aside0.mk hr
  clear hp hr
  unfold insertL
  cases h : readL p with
  | none =>
    have H := Aside0.mk h
    clear h
    go_enter Try.func19, Try.ntmps19
    go_wp2_with (go_at_call 26; refine (read_none _ A n c p HP.out hc hby H.out).mono ?_; rintro e w' ⟨rfl, hB⟩)
    go_ret3
    exact ⟨⟨_, rfl, Kd.R_nil _ _ _ _ _⟩, hB⟩
  | some s =>
    obtain ⟨_, hfit, hbs, _, hl⟩ := readL_some hby h
    have hz : sizes s ≤ 504 := by unfold Fits at hfit; omega
    have hfl := free_le s
    have hnone := grow_none s
    have hmem : ∀ q, some q ∈ grow s → Bytes q := fun q hq => hbs q (grow_mem hq)
    have H := Aside0.mk h
    clear h hfit hbs
    obtain ⟨k, hk⟩ : ∃ k, k = free s := ⟨_, rfl⟩
    have HK := Aside0.mk hk
    rw [← hk] at hfl hnone
    clear hk
    have hk00 : ¬ (k : Int) < 0 := by omega
    by_cases hfree : k < s.length
    · have hidx : idx s = (k : Int) := by unfold idx; rw [if_pos (by rw [← HK.out]; exact hfree), ← HK.out]
      have hgrow : grow s = s := by unfold grow; rw [if_pos (by rw [← HK.out]; exact hfree)]
      rw [hgrow] at hnone hmem
      obtain ⟨rm, hrm⟩ : ∃ rm, rm = roomL s := ⟨_, rfl⟩
      have HRM := Aside0.mk hrm
      have HIDX := Aside0.mk hidx
      clear hrm hidx
      simp only [hgrow, ← HRM.out, ← HK.out]
      clear hgrow
      by_cases hroom : (r.length : Int) > rm
      · rw [if_pos hroom]
        go_enter Try.func19, Try.ntmps19
        go_wp2_with (first
          | (go_at_call 26; refine (read_yes _ A n c p s HP.out hc hby H.out).mono ?_; rintro e w1 ⟨v, rfl, hRv, hB⟩; obtain ⟨Av, cv, hv, hcv, hCv⟩ := Kd.R_reads hRv.out; subst hv; have HCV := Aside0.mk hCv; have HRV : Aside0 (SK.R 22 w1 w.heap.size (fun _ => True) (.slice Av s.length cv) s) := ⟨hRv.out⟩; have HB1 : Aside0 (Below w.heap.size w w1) := ⟨hB.out⟩; clear hCv hRv hB)
          | (go_at_call 32; refine (index_any _ Av s.length cv s HCV.out (by omega)).mono ?_; rintro e w2 ⟨rfl, rfl⟩; rw [HIDX.out])
          | (go_at_call 28; refine (room_any _ Av s.length cv s HCV.out hcv (by omega) (by omega)).mono ?_; rintro e w3 ⟨rfl, hd⟩; rw [← HRM.out]; have HR3 : Aside0 (SK.R 22 w3 w.heap.size (fun _ => True) (.slice Av s.length cv) s) := ⟨Kd.R_below HRV.out hd.below⟩; have HB3 : Aside0 (Below w.heap.size w w3) := ⟨HB1.out.trans (hd.below.mono HB1.out.size)⟩; clear hd))
        go_ret3
        exact ⟨⟨_, rfl, Kd.R_nil _ _ _ _ _⟩, HB3⟩
      · rw [if_neg hroom]
        have HFT : Aside0 (Fits (s.set k (some r))) := ⟨put_fits hfree hnone (by rw [← HRM.out]; omega)⟩
        have HBT : Aside0 (∀ q, some q ∈ s.set k (some r) → Bytes q) := ⟨fun q hq => by
          rcases mem_set hq with h1 | h1
          · exact hmem q h1
          · cases h1; exact hbr⟩
        go_enter Try.func19, Try.ntmps19
        go_wp2_with (first
          | (go_at_call 26; refine (read_yes _ A n c p s HP.out hc hby H.out).mono ?_; rintro e w1 ⟨v, rfl, hRv, hB⟩; obtain ⟨Av, cv, hv, hcv, hCv⟩ := Kd.R_reads hRv.out; subst hv; have HCV := Aside0.mk hCv; have HRV : Aside0 (SK.R 22 w1 w.heap.size (fun _ => True) (.slice Av s.length cv) s) := ⟨hRv.out⟩; have HB1 : Aside0 (Below w.heap.size w w1) := ⟨hB.out⟩; clear hCv hRv hB)
          | (go_at_call 32; refine (index_any _ Av s.length cv s HCV.out (by omega)).mono ?_; rintro e w2 ⟨rfl, rfl⟩; rw [HIDX.out])
          | (go_at_call 28; refine (room_any _ Av s.length cv s HCV.out hcv (by omega) (by omega)).mono ?_; rintro e w3 ⟨rfl, hd⟩; rw [← HRM.out]; have HR3 : Aside0 (SK.R 22 w3 w.heap.size (fun _ => True) (.slice Av s.length cv) s) := ⟨Kd.R_below HRV.out hd.below⟩; have HB3 : Aside0 (Below w.heap.size w w3) := ⟨HB1.out.trans (hd.below.mono HB1.out.size)⟩; clear hd)
          | ((with_reducible refine gate_dst (N := 32) rfl ?_); refine Kd.R_lit (Kd.int .u8) _ 5 ?hg (N := 32) ?hd (xs := ([] : List Int)) (inner := []) (ok := fun _ => True) (okp := fun _ => True) ?hr ?hp (fun _ hk => hk) trivial (Below.refl _ _) (Nat.le_refl _) (by simp) ?_; (case hd => rfl); (case hg => rfl); (case hr => first | (go_simp; done) | (go_simp; rfl)); (case hp => exact (Reps.none _ _)); intro v4 w4 ho hb hg_ hnew; have HO4 := Aside0.mk ho; have HB4 := Aside0.mk hb; have HN4 := Aside0.mk hnew; clear ho hb hg_ hnew)
          | ((with_reducible refine gate_builtin (b := .append) (xs := #[.tmp 32, .tmp 33]) rfl ?_); at_builtin; refine Kd.R_append_rows (Kd.int .u8) (w0 := w3) w3.heap.size rfl (.tmp 32) (.tmp 33) 22 5 (.int .u8 0) 1 rfl Try.underlying22 info5 rfl (by decide) (by omega) v4 [] r _ _ _ (fun _ => True) (fun _ => False) rfl rfl ?aO ?aR (fun _ _ h => h) (fun _ h => h.elim) ?aF ?aB ?aS ?aL ?_; (case aR => exact Kd.C_below HR.out (HB3.out.trans (HB4.out.mono HB3.out.size))); (case aB => exact HB4.out); (case aF => exact (fun _ _ => trivial)); (case aO => exact HO4.out); (case aS => exact HB4.out.size); (case aL => rw [List.length_nil]; omega); intro v5 w5 ho hb hg hat; rw [List.nil_append] at ho; have HO5 := Aside0.mk ho; have HB5 := Aside0.mk hb; have HN5 : Aside0 (∃ b, v5.ownBlock = some b) := ⟨by rcases hat with e | ⟨b, e, _⟩; exact e ▸ (HN4.out.elim fun b hb => ⟨b, hb.1⟩); exact ⟨b, e⟩⟩; clear ho hb hg hat; obtain ⟨gv, cvv, hv5, _⟩ := row_some HO5.out (by rintro rfl; obtain ⟨b, hb⟩ := HN5.out; simp [Value.ownBlock] at hb); subst hv5; have HR5 : Aside0 (SK.R 22 w5 w.heap.size (fun _ => True) (.slice Av s.length cv) s) := ⟨Kd.R_below HR3.out HB5.out⟩; obtain ⟨g5, u5, he5, _, hcell5, hfr5, _, _⟩ := sk_at HR5.out k hfree; subst he5)
          | (go_at_call 30; have HR6 : Aside0 (SK.R 22 (w5.setCell ⟨g5, k, none⟩ (.slice (some ⟨gv, 0, none⟩) r.length cvv)) w.heap.size (fun _ => True) (.slice (some ⟨g5, 0, none⟩) s.length cv) (s.set k (some r))) := ⟨sk_set HR5.out k hfree (some r) (.slice (some ⟨gv, 0, none⟩) r.length cvv) _ (SK.M_lower HB3.out.size (SK.M_bound (m_of_row HO5.out HN5.out))) (fun q hq => ⟨trivial, by have h9 := Kd.R_lt HR3.out g5 rfl; have h8 := hq.2.1; omega⟩)⟩; refine (page_any _ (some ⟨g5, 0, none⟩) s.length cv (s.set k (some r)) ?hcd hcv ?hft ?hbt).mono ?_; (case hcd => have h9 := (Kd.R_reads' HR6.out).2.2; rw [List.length_set] at h9; exact h9); (case hft => exact HFT.out); (case hbt => exact HBT.out); rintro e w7 ⟨v7, rfl, HR7, HB7⟩; have HB6 : Aside0 (Below w.heap.size w (w5.setCell ⟨g5, k, none⟩ (.slice (some ⟨gv, 0, none⟩) r.length cvv))) := ⟨(HB3.out.trans (HB5.out.mono HB3.out.size)).setCell (p := ⟨g5, k, none⟩) (Kd.R_base HR3.out g5 rfl) (.slice (some ⟨gv, 0, none⟩) r.length cvv)⟩))
        go_ret3
        exact ⟨⟨_, rfl, Kd.R_lower HR7.out HB6.out.size⟩, ⟨HB6.out.trans (HB7.out.mono HB6.out.size)⟩⟩
    · have hidx : idx s = -1 := by unfold idx; rw [if_neg (by rw [← HK.out]; exact hfree)]
      have hks : k = s.length := by omega
      have hgrow : grow s = s ++ [none] := by unfold grow; rw [if_neg (by rw [← HK.out]; exact hfree)]
      have hgl : k < (grow s).length := by rw [hgrow, List.length_append]; simp; omega
      have hgz : sizes (grow s) ≤ 504 := by rw [grow_sizes]; exact hz
      have hgn : (grow s).length ≤ 126 := by rw [hgrow, List.length_append]; simp; omega
      have hgn1 : s.length + 1 = (grow s).length := by rw [hgrow, List.length_append]; rfl
      obtain ⟨sg, hsg⟩ : ∃ sg, sg = grow s := ⟨_, rfl⟩
      rw [← hsg] at hgl hgz hgn hgrow hmem hnone hgn1
      have HG := Aside0.mk hgrow
      obtain ⟨rm, hrm⟩ : ∃ rm, rm = roomL sg := ⟨_, rfl⟩
      have HRM := Aside0.mk hrm
      have HIDX := Aside0.mk hidx
      clear hidx
      simp only [← hsg, ← hrm, ← HK.out]
      clear hrm hsg hgrow hfree hfl
      subst hks
      by_cases hroom : (r.length : Int) > rm
      · rw [if_pos hroom]
        go_enter Try.func19, Try.ntmps19
        go_wp2_with (first
          | (go_at_call 26; refine (read_yes _ A n c p s HP.out hc hby H.out).mono ?_; rintro e w1 ⟨v, rfl, hRv, hB⟩; obtain ⟨Av, cv, hv, hcv, hCv⟩ := Kd.R_reads hRv.out; subst hv; have HCV := Aside0.mk hCv; have HRV : Aside0 (SK.R 22 w1 w.heap.size (fun _ => True) (.slice Av s.length cv) s) := ⟨hRv.out⟩; have HB1 : Aside0 (Below w.heap.size w w1) := ⟨hB.out⟩; clear hCv hRv hB)
          | (go_at_call 32; refine (index_any _ Av s.length cv s HCV.out (by omega)).mono ?_; rintro e w2 ⟨rfl, rfl⟩; rw [HIDX.out])
          | ((with_reducible refine gate_builtin (b := .append) (xs := #[.tmp 22, .tmp 23]) rfl ?_); at_builtin; refine Kd.R_append SK (w0 := w) w.heap.size rfl (.tmp 22) (.tmp 23) 52 22 (.slice none 0 0) 24 rfl under52 info22 rfl (by decide) (by omega) (.slice Av s.length cv) s none [.slice none 0 0] (fun _ => True) (fun _ => False) rfl rfl ?ap (fun _ h => h.elim) (fun _ _ => trivial) ?aO ?aB ?aS ?aL ?_; (case ap => exact rfl); (case aO => exact HRV.out); (case aB => exact HB1.out); (case aS => exact HB1.out.size); (case aL => omega); intro vg wg ho hb hg hat; obtain ⟨Ag, cg, hvg, hcg, hCg⟩ := Kd.R_reads ho; subst hvg; rw [← HG.out] at ho hCg hcg ⊢; have HCG := Aside0.mk hCg; have HRG := Aside0.mk ho; have HBG := Aside0.mk hb; clear ho hb hg hat hCg)
          | (go_at_call 28; refine (room_any _ Ag sg.length cg sg HCG.out hcg (by omega) (by omega)).mono ?_; rintro e w3 ⟨rfl, hd⟩; rw [← HRM.out]; have HR3 : Aside0 (SK.R 22 w3 w.heap.size (fun _ => True) (.slice Ag sg.length cg) sg) := ⟨Kd.R_below HRG.out hd.below⟩; have HB3 : Aside0 (Below w.heap.size w w3) := ⟨HBG.out.trans (hd.below.mono HBG.out.size)⟩; clear hd))
        go_ret3
        exact ⟨⟨_, rfl, Kd.R_nil _ _ _ _ _⟩, HB3⟩
      · rw [if_neg hroom]
        have HFT : Aside0 (Fits (sg.set s.length (some r))) := ⟨put_fits hgl hnone (by rw [← HRM.out]; omega)⟩
        have HBT : Aside0 (∀ q, some q ∈ sg.set s.length (some r) → Bytes q) := ⟨fun q hq => by
          rcases mem_set hq with h1 | h1
          · exact hmem q h1
          · cases h1; exact hbr⟩
        go_enter Try.func19, Try.ntmps19
        go_wp2_with (first
          | (go_at_call 26; refine (read_yes _ A n c p s HP.out hc hby H.out).mono ?_; rintro e w1 ⟨v, rfl, hRv, hB⟩; obtain ⟨Av, cv, hv, hcv, hCv⟩ := Kd.R_reads hRv.out; subst hv; have HCV := Aside0.mk hCv; have HRV : Aside0 (SK.R 22 w1 w.heap.size (fun _ => True) (.slice Av s.length cv) s) := ⟨hRv.out⟩; have HB1 : Aside0 (Below w.heap.size w w1) := ⟨hB.out⟩; clear hCv hRv hB)
          | (go_at_call 32; refine (index_any _ Av s.length cv s HCV.out (by omega)).mono ?_; rintro e w2 ⟨rfl, rfl⟩; rw [HIDX.out])
          | ((with_reducible refine gate_builtin (b := .append) (xs := #[.tmp 22, .tmp 23]) rfl ?_); at_builtin; refine Kd.R_append SK (w0 := w) w.heap.size rfl (.tmp 22) (.tmp 23) 52 22 (.slice none 0 0) 24 rfl under52 info22 rfl (by decide) (by omega) (.slice Av s.length cv) s none [.slice none 0 0] (fun _ => True) (fun _ => False) rfl rfl ?ap (fun _ h => h.elim) (fun _ _ => trivial) ?aO ?aB ?aS ?aL ?_; (case ap => exact rfl); (case aO => exact HRV.out); (case aB => exact HB1.out); (case aS => exact HB1.out.size); (case aL => omega); intro vg wg ho hb hg hat; obtain ⟨Ag, cg, hvg, hcg, hCg⟩ := Kd.R_reads ho; subst hvg; rw [← HG.out] at ho hCg hcg ⊢; have HCG := Aside0.mk hCg; have HRG := Aside0.mk ho; have HBG := Aside0.mk hb; clear ho hb hg hat hCg)
          | (go_at_call 28; refine (room_any _ Ag sg.length cg sg HCG.out hcg (by omega) (by omega)).mono ?_; rintro e w3 ⟨rfl, hd⟩; rw [← HRM.out]; have HR3 : Aside0 (SK.R 22 w3 w.heap.size (fun _ => True) (.slice Ag sg.length cg) sg) := ⟨Kd.R_below HRG.out hd.below⟩; have HB3 : Aside0 (Below w.heap.size w w3) := ⟨HBG.out.trans (hd.below.mono HBG.out.size)⟩; clear hd)
          | ((with_reducible refine gate_dst (N := 32) rfl ?_); refine Kd.R_lit (Kd.int .u8) _ 5 ?hg (N := 32) ?hd (xs := ([] : List Int)) (inner := []) (ok := fun _ => True) (okp := fun _ => True) ?hr ?hp (fun _ hk => hk) trivial (Below.refl _ _) (Nat.le_refl _) (by simp) ?_; (case hd => rfl); (case hg => rfl); (case hr => first | (go_simp; done) | (go_simp; rfl)); (case hp => exact (Reps.none _ _)); intro v4 w4 ho hb hg_ hnew; have HO4 := Aside0.mk ho; have HB4 := Aside0.mk hb; have HN4 := Aside0.mk hnew; clear ho hb hg_ hnew)
          | ((with_reducible refine gate_builtin (b := .append) (xs := #[.tmp 32, .tmp 33]) rfl ?_); at_builtin; refine Kd.R_append_rows (Kd.int .u8) (w0 := w3) w3.heap.size rfl (.tmp 32) (.tmp 33) 22 5 (.int .u8 0) 1 rfl Try.underlying22 info5 rfl (by decide) (by omega) v4 [] r _ _ _ (fun _ => True) (fun _ => False) rfl rfl ?aO ?aR (fun _ _ h => h) (fun _ h => h.elim) ?aF ?aB ?aS ?aL ?_; (case aR => exact Kd.C_below HR.out (HB3.out.trans (HB4.out.mono HB3.out.size))); (case aB => exact HB4.out); (case aF => exact (fun _ _ => trivial)); (case aO => exact HO4.out); (case aS => exact HB4.out.size); (case aL => rw [List.length_nil]; omega); intro v5 w5 ho hb hg hat; rw [List.nil_append] at ho; have HO5 := Aside0.mk ho; have HB5 := Aside0.mk hb; have HN5 : Aside0 (∃ b, v5.ownBlock = some b) := ⟨by rcases hat with e | ⟨b, e, _⟩; exact e ▸ (HN4.out.elim fun b hb => ⟨b, hb.1⟩); exact ⟨b, e⟩⟩; clear ho hb hg hat; obtain ⟨gv, cvv, hv5, _⟩ := row_some HO5.out (by rintro rfl; obtain ⟨b, hb⟩ := HN5.out; simp [Value.ownBlock] at hb); subst hv5; have HR5 : Aside0 (SK.R 22 w5 w.heap.size (fun _ => True) (.slice Ag sg.length cg) sg) := ⟨Kd.R_below HR3.out HB5.out⟩; obtain ⟨g5, u5, he5, _, hcell5, hfr5, _, _⟩ := sk_at HR5.out s.length hgl; subst he5)
          | (go_at_call 30; have HR6 : Aside0 (SK.R 22 (w5.setCell ⟨g5, s.length, none⟩ (.slice (some ⟨gv, 0, none⟩) r.length cvv)) w.heap.size (fun _ => True) (.slice (some ⟨g5, 0, none⟩) sg.length cg) (sg.set s.length (some r))) := ⟨sk_set HR5.out s.length hgl (some r) (.slice (some ⟨gv, 0, none⟩) r.length cvv) _ (SK.M_lower HB3.out.size (SK.M_bound (m_of_row HO5.out HN5.out))) (fun q hq => ⟨trivial, by have h9 := Kd.R_lt HR3.out g5 rfl; have h8 := hq.2.1; omega⟩)⟩; refine (page_any _ (some ⟨g5, 0, none⟩) sg.length cg (sg.set s.length (some r)) ?hcd hcg ?hft ?hbt).mono ?_; (case hcd => have h9 := (Kd.R_reads' HR6.out).2.2; rw [List.length_set] at h9; exact h9); (case hft => exact HFT.out); (case hbt => exact HBT.out); rintro e w7 ⟨v7, rfl, HR7, HB7⟩; have HB6 : Aside0 (Below w.heap.size w (w5.setCell ⟨g5, s.length, none⟩ (.slice (some ⟨gv, 0, none⟩) r.length cvv))) := ⟨(HB3.out.trans (HB5.out.mono HB3.out.size)).setCell (p := ⟨g5, s.length, none⟩) (Kd.R_base HR3.out g5 rfl) (.slice (some ⟨gv, 0, none⟩) r.length cvv)⟩))
        go_ret3
        exact ⟨⟨_, rfl, Kd.R_lower HR7.out HB6.out.size⟩, ⟨HB6.out.trans (HB7.out.mono HB6.out.size)⟩⟩

end Go.Proofs.Ytbffeibcndbmgaa.Pg

/-! ## Taken -/
set_option linter.unusedVariables false
set_option linter.unusedSimpArgs false
namespace Go.Proofs.Ytbffeibcndbmgaa.Pg
open Go.RowKit Go.Shelf Go.Proofs.YtbffeibcndbmgaaW.PrintWords Go.Proofs.YtbffeibcndbmgaaW.PrintLast Go.Proofs.YtbffeibcndbmgaaW.PrintMore Go.Proofs.Ytbffeibcndbmgaa.PPageSteps

/-- what taken answers. -/
def TakenPost (p : List Int) (i : Int) (base : Nat) (e : Ending) (w' : World) : Prop := match readL p with
  | none => e = .returned (.tuple #[.slice none 0 0, .int .i64 21])
  | some s => if badAt s i = true then e = .returned (.tuple #[.slice none 0 0, .int .i64 3]) else ∃ v, e = .returned (.tuple #[v, .int .i64 0]) ∧ SK.R 22 w' base (fun _ => True) v (s.set i.toNat none)

set_option maxHeartbeats 4000000 in
set_option maxRecDepth 100000 in
theorem taken_any (w : World) (A : Option Addr) (n c : Nat) (p : List Int) (i : Int) (hp : Kd.C (Kd.int .u8) w A n p) (hc : n ≤ c) (hby : Bytes p) :
    Calls Try.prog 34 #[.slice A n c, .int .i64 i] w fun e w' => Aside0 (TakenPost p i w.heap.size e w') ∧ Aside0 (Below w.heap.size w w') := by
  have HP := Aside0.mk hp
  clear hp
  have hsn := fun (w : World) (a : Option Addr) (n c : Nat) => Lib.run_eql_slice_nil (P := Try.prog) w 22 5 a n c 0 0 Try.underlying22
  unfold TakenPost
  cases h : readL p with
  | none =>
    have H := Aside0.mk h
    clear h
    go_enter Try.func34, Try.ntmps34
    go_wp2_with (go_at_call 26; refine (read_none _ A n c p HP.out hc hby H.out).mono ?_; rintro e w' ⟨rfl, hB⟩)
    go_ret2
    exact ⟨⟨rfl⟩, hB⟩
  | some s =>
    obtain ⟨_, _, _, _, hl⟩ := readL_some hby h
    have H := Aside0.mk h
    clear h
    by_cases h0 : i < 0
    · have hbad : badAt s i = true := by simp [badAt, h0]
      simp only [hbad, if_true]
      clear hbad
      go_enter Try.func34, Try.ntmps34
      go_wp2_with (go_at_call 26; refine (read_yes _ A n c p s HP.out hc hby H.out).mono ?_; rintro e w' ⟨v, rfl, hR, hB⟩; obtain ⟨Av, cv, hv⟩ := Kd.R_slice hR.out; subst hv)
      go_ret2
      exact ⟨⟨rfl⟩, hB⟩
    · obtain ⟨j, rfl⟩ := Int.eq_ofNat_of_zero_le (show 0 ≤ i by omega)
      by_cases h1 : j < s.length
      · cases hx : s.getD j none with
        | none =>
          have hbad : badAt s (j : Int) = true := by simp [badAt, ← List.getD_eq_getElem?_getD, hx]
          simp only [hbad, if_true]
          have HX := Aside0.mk hx
          clear hbad hx
          go_enter Try.func34, Try.ntmps34
          go_wp2_with (go_at_call 26; refine (read_yes _ A n c p s HP.out hc hby H.out).mono ?_; rintro e w' ⟨v, rfl, hR, hB⟩; obtain ⟨Av, cv, hv⟩ := Kd.R_slice hR.out; subst hv; obtain ⟨g, u, rfl, _, hcell, _, _, hM⟩ := sk_at hR.out j h1; rw [HX.out] at hM; obtain rfl : u = .slice none 0 0 := (List.cons.inj hM).1; clear hM)
          go_ret2
          exact ⟨⟨rfl⟩, hB⟩
        | some r =>
          have hbad : ¬ badAt s (j : Int) = true := by simp [badAt, ← List.getD_eq_getElem?_getD, hx]; omega
          simp only [if_neg hbad, Int.toNat_natCast]
          have HX := Aside0.mk hx
          clear hbad hx
          go_enter Try.func34, Try.ntmps34
          go_wp2_with (go_at_call 26; refine (read_yes _ A n c p s HP.out hc hby H.out).mono ?_; rintro e w' ⟨v, rfl, hR, hB⟩; obtain ⟨Av, cv, hv⟩ := Kd.R_slice hR.out; subst hv; obtain ⟨g, u, rfl, _, hcell, hfr, hbg, hM⟩ := sk_at hR.out j h1; rw [HX.out] at hM; obtain ⟨gu, cu, hu⟩ := m_shape hM; subst hu; have HBG := Aside0.mk hbg; clear hM hbg)
          go_ret2
          refine ⟨⟨_, rfl, sk_set hR.out j h1 none (.slice none 0 0) (fun _ => False) rfl (fun _ h => h.elim)⟩, ⟨hB.out.setCell (p := ⟨g, j, none⟩) HBG.out _⟩⟩
      · have hbad : badAt s (j : Int) = true := by simp [badAt]; omega
        simp only [hbad, if_true]
        clear hbad
        go_enter Try.func34, Try.ntmps34
        go_wp2_with (go_at_call 26; refine (read_yes _ A n c p s HP.out hc hby H.out).mono ?_; rintro e w' ⟨v, rfl, hR, hB⟩; obtain ⟨Av, cv, hv⟩ := Kd.R_slice hR.out; subst hv)
        go_ret2
        exact ⟨⟨rfl⟩, hB⟩

end Go.Proofs.Ytbffeibcndbmgaa.Pg

/-! ## Delete -/
set_option linter.unusedVariables false
set_option linter.unusedSimpArgs false
namespace Go.Proofs.Ytbffeibcndbmgaa.Pg
open Go.RowKit Go.Shelf Go.Proofs.YtbffeibcndbmgaaW.PrintWords Go.Proofs.YtbffeibcndbmgaaW.PrintLast Go.Proofs.YtbffeibcndbmgaaW.PrintMore Go.Proofs.Ytbffeibcndbmgaa.PPageSteps

theorem taken_none (w : World) (A : Option Addr) (n c : Nat) (p : List Int) (i : Int) (hp : Kd.C (Kd.int .u8) w A n p) (hc : n ≤ c) (hby : Bytes p) (h : readL p = none) :
    Calls Try.prog 34 #[.slice A n c, .int .i64 i] w fun e w' => e = .returned (.tuple #[.slice none 0 0, .int .i64 21]) ∧ Aside0 (Below w.heap.size w w') := by
  refine (taken_any w A n c p i hp hc hby).mono ?_
  rintro e w' ⟨⟨h1⟩, h2⟩
  unfold TakenPost at h1
  rw [h] at h1
  exact ⟨h1, h2⟩
theorem taken_bad (w : World) (A : Option Addr) (n c : Nat) (p : List Int) (i : Int) (s : Slots) (hp : Kd.C (Kd.int .u8) w A n p) (hc : n ≤ c) (hby : Bytes p) (h : readL p = some s) (hb : badAt s i = true) :
    Calls Try.prog 34 #[.slice A n c, .int .i64 i] w fun e w' => e = .returned (.tuple #[.slice none 0 0, .int .i64 3]) ∧ Aside0 (Below w.heap.size w w') := by
  refine (taken_any w A n c p i hp hc hby).mono ?_
  rintro e w' ⟨⟨h1⟩, h2⟩
  unfold TakenPost at h1
  rw [h] at h1
  simp only [if_pos hb] at h1
  exact ⟨h1, h2⟩
theorem taken_good (w : World) (A : Option Addr) (n c : Nat) (p : List Int) (i : Int) (s : Slots) (hp : Kd.C (Kd.int .u8) w A n p) (hc : n ≤ c) (hby : Bytes p) (h : readL p = some s) (hb : ¬ badAt s i = true) :
    Calls Try.prog 34 #[.slice A n c, .int .i64 i] w fun e w' => ∃ v, e = .returned (.tuple #[v, .int .i64 0]) ∧ Aside0 (SK.R 22 w' w.heap.size (fun _ => True) v (s.set i.toNat none)) ∧ Aside0 (Below w.heap.size w w') := by
  refine (taken_any w A n c p i hp hc hby).mono ?_
  rintro e w' ⟨⟨h1⟩, h2⟩
  unfold TakenPost at h1
  rw [h] at h1
  simp only [if_neg hb] at h1
  obtain ⟨v, he, hR⟩ := h1
  exact ⟨v, he, ⟨hR⟩, h2⟩

/-- what Update and Delete answer. -/
def DelPost (o : List Int × Int) (base : Nat) (e : Ending) (w' : World) : Prop := ∃ v, e = .returned (.tuple #[v, .int .i64 o.2]) ∧ Kd.R (Kd.int .u8) 5 w' base (fun _ => True) v o.1

set_option maxHeartbeats 4000000 in
set_option maxRecDepth 100000 in
theorem delete_any (w : World) (A : Option Addr) (n c : Nat) (p : List Int) (i : Int) (hp : Kd.C (Kd.int .u8) w A n p) (hc : n ≤ c) (hby : Bytes p) :
    Calls Try.prog 23 #[.slice A n c, .int .i64 i] w fun e w' => Aside0 (DelPost (deleteL p i) w.heap.size e w') ∧ Aside0 (Below w.heap.size w w') := by
  have HP := Aside0.mk hp
  clear hp
  unfold deleteL
  cases h : readL p with
  | none =>
    have H := Aside0.mk h
    clear h
    go_enter Try.func23, Try.ntmps23
    go_wp2_with (go_at_call 34; refine (taken_none _ A n c p i HP.out hc hby H.out).mono ?_; rintro e w' ⟨rfl, hB⟩)
    go_ret2
    exact ⟨⟨_, rfl, Kd.R_nil _ _ _ _ _⟩, hB⟩
  | some s =>
    obtain ⟨_, hfit, hbs, _, hl⟩ := readL_some hby h
    have H := Aside0.mk h
    have hF2 : Fits (s.set i.toNat none) := by
      have := sizes_gone s i.toNat
      unfold Fits at *
      rw [List.length_set]
      omega
    have HFT := Aside0.mk hF2
    have HBT : Aside0 (∀ q, some q ∈ s.set i.toNat none → Bytes q) := ⟨fun q hq => by
      rcases mem_set hq with h1 | h1
      · exact hbs q h1
      · cases h1⟩
    clear h hfit hbs hF2
    by_cases hbad : badAt s i = true
    · have HBAD := Aside0.mk hbad
      simp only [if_pos hbad]
      clear hbad
      go_enter Try.func23, Try.ntmps23
      go_wp2_with (go_at_call 34; refine (taken_bad _ A n c p i s HP.out hc hby H.out HBAD.out).mono ?_; rintro e w' ⟨rfl, hB⟩)
      go_ret2
      exact ⟨⟨_, rfl, Kd.R_nil _ _ _ _ _⟩, hB⟩
    · have HBAD := Aside0.mk hbad
      simp only [if_neg hbad]
      clear hbad
      obtain ⟨t, ht⟩ : ∃ t, t = s.set i.toNat none := ⟨_, rfl⟩
      rw [← ht] at HFT HBT ⊢
      have HT := Aside0.mk ht
      clear ht
      go_enter Try.func23, Try.ntmps23
      go_wp2_with (first
        | (go_at_call 34; refine (taken_good _ A n c p i s HP.out hc hby H.out HBAD.out).mono ?_; rintro e w1 ⟨v, rfl, hR, hB⟩; rw [← HT.out] at hR; obtain ⟨Av, cv, hv, hcv, hCv⟩ := Kd.R_reads hR.out; subst hv; have HCV := Aside0.mk hCv; clear hCv)
        | (go_at_call 30; refine (page_any _ Av t.length cv t HCV.out hcv HFT.out HBT.out).mono ?_; rintro e w7 ⟨v7, rfl, HR7, HB7⟩))
      go_ret2
      exact ⟨⟨_, rfl, Kd.R_lower HR7.out hB.out.size⟩, ⟨hB.out.trans (HB7.out.mono hB.out.size)⟩⟩

end Go.Proofs.Ytbffeibcndbmgaa.Pg

/-! ## Update -/
set_option linter.unusedVariables false
set_option linter.unusedSimpArgs false
namespace Go.Proofs.Ytbffeibcndbmgaa.Pg
open Go.RowKit Go.Shelf Go.Proofs.YtbffeibcndbmgaaW.PrintWords Go.Proofs.YtbffeibcndbmgaaW.PrintLast Go.Proofs.YtbffeibcndbmgaaW.PrintMore Go.Proofs.Ytbffeibcndbmgaa.PPageSteps

theorem set_none (s : Slots) (j : Nat) : (s.set j none).getD j none = none := by
  rw [List.getD_eq_getElem?_getD]
  by_cases h : j < s.length
  · rw [List.getElem?_set_self h]; rfl
  · rw [List.getElem?_eq_none (by rw [List.length_set]; omega)]; rfl

set_option maxHeartbeats 8000000 in
set_option maxRecDepth 100000 in
theorem update_any (w : World) (A : Option Addr) (n c : Nat) (p : List Int) (i : Int) (A1 : Option Addr) (c1 : Nat) (r : List Int) (hp : Kd.C (Kd.int .u8) w A n p) (hc : n ≤ c) (hby : Bytes p) (hr : Kd.C (Kd.int .u8) w A1 r.length r) (hc1 : r.length ≤ c1) (hbr : Bytes r) (hlr : r.length ≤ 140737488351232) :
    Calls Try.prog 21 #[.slice A n c, .int .i64 i, .slice A1 r.length c1] w fun e w' => Aside0 (DelPost (updateL p i r) w.heap.size e w') ∧ Aside0 (Below w.heap.size w w') := by
  have HP := Aside0.mk hp
  have HR := Aside0.mk hr
  clear hp hr
  unfold updateL
  cases h : readL p with
  | none =>
    have H := Aside0.mk h
    clear h
    go_enter Try.func21, Try.ntmps21
    go_wp2_with (go_at_call 34; refine (taken_none _ A n c p i HP.out hc hby H.out).mono ?_; rintro e w' ⟨rfl, hB⟩)
    go_ret2
    exact ⟨⟨_, rfl, Kd.R_nil _ _ _ _ _⟩, hB⟩
  | some s =>
    obtain ⟨_, hfit, hbs, _, hl⟩ := readL_some hby h
    have H := Aside0.mk h
    have hz0 : sizes s ≤ 504 := by unfold Fits at hfit; omega
    clear h hfit
    by_cases hbad : badAt s i = true
    · have HBAD := Aside0.mk hbad
      simp only [if_pos hbad]
      clear hbad
      go_enter Try.func21, Try.ntmps21
      go_wp2_with (go_at_call 34; refine (taken_bad _ A n c p i s HP.out hc hby H.out HBAD.out).mono ?_; rintro e w' ⟨rfl, hB⟩)
      go_ret2
      exact ⟨⟨_, rfl, Kd.R_nil _ _ _ _ _⟩, hB⟩
    · have HBAD := Aside0.mk hbad
      simp only [if_neg hbad]
      have hi : 0 ≤ i ∧ i < s.length := by
        simp only [badAt, Bool.or_eq_true, decide_eq_true_eq] at hbad
        omega
      clear hbad
      obtain ⟨j, rfl⟩ := Int.eq_ofNat_of_zero_le hi.1
      rw [Int.toNat_natCast]
      have hnone := set_none s j
      have hz := sizes_gone s j
      have hjt : j < (s.set j none).length := by rw [List.length_set]; omega
      have hlt : (s.set j none).length ≤ 125 := by rw [List.length_set]; omega
      have hmem : ∀ q, some q ∈ s.set j none → Bytes q := fun q hq => by
        rcases mem_set hq with h1 | h1
        · exact hbs q h1
        · cases h1
      obtain ⟨t, ht⟩ : ∃ t, t = s.set j none := ⟨_, rfl⟩
      rw [← ht] at hnone hz hjt hmem hlt ⊢
      have HT := Aside0.mk ht
      obtain ⟨rm, hrm⟩ : ∃ rm, rm = roomL t := ⟨_, rfl⟩
      have HRM := Aside0.mk hrm
      rw [← hrm]
      clear ht hrm hbs
      have hj0 : ¬ (j : Int) < 0 := by omega
      by_cases hroom : (r.length : Int) > rm
      · rw [if_pos hroom]
        go_enter Try.func21, Try.ntmps21
        go_wp2_with (first
          | (go_at_call 34; refine (taken_good _ A n c p (j : Int) s HP.out hc hby H.out HBAD.out).mono ?_; rintro e w1 ⟨v, rfl, hRv, hB⟩; rw [Int.toNat_natCast, ← HT.out] at hRv; obtain ⟨Av, cv, hv, hcv, hCv⟩ := Kd.R_reads hRv.out; subst hv; have HCV := Aside0.mk hCv; have HRV : Aside0 (SK.R 22 w1 w.heap.size (fun _ => True) (.slice Av t.length cv) t) := ⟨hRv.out⟩; have HB1 : Aside0 (Below w.heap.size w w1) := ⟨hB.out⟩; clear hCv hRv hB)
          | (go_at_call 28; refine (room_any _ Av t.length cv t HCV.out hcv (by omega) (by omega)).mono ?_; rintro e w3 ⟨rfl, hd⟩; rw [← HRM.out]; have HR3 : Aside0 (SK.R 22 w3 w.heap.size (fun _ => True) (.slice Av t.length cv) t) := ⟨Kd.R_below HRV.out hd.below⟩; have HB3 : Aside0 (Below w.heap.size w w3) := ⟨HB1.out.trans (hd.below.mono HB1.out.size)⟩; clear hd))
        go_ret2
        exact ⟨⟨_, rfl, Kd.R_nil _ _ _ _ _⟩, HB3⟩
      · rw [if_neg hroom]
        have HFT : Aside0 (Fits (t.set j (some r))) := ⟨put_fits hjt hnone (by rw [← HRM.out]; omega)⟩
        have HBT : Aside0 (∀ q, some q ∈ t.set j (some r) → Bytes q) := ⟨fun q hq => by
          rcases mem_set hq with h1 | h1
          · exact hmem q h1
          · cases h1; exact hbr⟩
        go_enter Try.func21, Try.ntmps21
        go_wp2_with (first
          | (go_at_call 34; refine (taken_good _ A n c p (j : Int) s HP.out hc hby H.out HBAD.out).mono ?_; rintro e w1 ⟨v, rfl, hRv, hB⟩; rw [Int.toNat_natCast, ← HT.out] at hRv; obtain ⟨Av, cv, hv, hcv, hCv⟩ := Kd.R_reads hRv.out; subst hv; have HCV := Aside0.mk hCv; have HRV : Aside0 (SK.R 22 w1 w.heap.size (fun _ => True) (.slice Av t.length cv) t) := ⟨hRv.out⟩; have HB1 : Aside0 (Below w.heap.size w w1) := ⟨hB.out⟩; clear hCv hRv hB)
          | (go_at_call 28; refine (room_any _ Av t.length cv t HCV.out hcv (by omega) (by omega)).mono ?_; rintro e w3 ⟨rfl, hd⟩; rw [← HRM.out]; have HR3 : Aside0 (SK.R 22 w3 w.heap.size (fun _ => True) (.slice Av t.length cv) t) := ⟨Kd.R_below HRV.out hd.below⟩; have HB3 : Aside0 (Below w.heap.size w w3) := ⟨HB1.out.trans (hd.below.mono HB1.out.size)⟩; clear hd)
          | ((with_reducible refine gate_dst (N := 28) rfl ?_); refine Kd.R_lit (Kd.int .u8) _ 5 ?hg (N := 28) ?hd (xs := ([] : List Int)) (inner := []) (ok := fun _ => True) (okp := fun _ => True) ?hr ?hp (fun _ hk => hk) trivial (Below.refl _ _) (Nat.le_refl _) (by simp) ?_; (case hd => rfl); (case hg => rfl); (case hr => first | (go_simp; done) | (go_simp; rfl)); (case hp => exact (Reps.none _ _)); intro v4 w4 ho hb hg_ hnew; have HO4 := Aside0.mk ho; have HB4 := Aside0.mk hb; have HN4 := Aside0.mk hnew; clear ho hb hg_ hnew)
          | ((with_reducible refine gate_builtin (b := .append) (xs := #[.tmp 28, .tmp 29]) rfl ?_); at_builtin; refine Kd.R_append_rows (Kd.int .u8) (w0 := w3) w3.heap.size rfl (.tmp 28) (.tmp 29) 22 5 (.int .u8 0) 1 rfl Try.underlying22 info5 rfl (by decide) (by omega) v4 [] r _ _ _ (fun _ => True) (fun _ => False) rfl rfl ?aO ?aR (fun _ _ h => h) (fun _ h => h.elim) ?aF ?aB ?aS ?aL ?_; (case aR => exact Kd.C_below HR.out (HB3.out.trans (HB4.out.mono HB3.out.size))); (case aB => exact HB4.out); (case aF => exact (fun _ _ => trivial)); (case aO => exact HO4.out); (case aS => exact HB4.out.size); (case aL => rw [List.length_nil]; omega); intro v5 w5 ho hb hg hat; rw [List.nil_append] at ho; have HO5 := Aside0.mk ho; have HB5 := Aside0.mk hb; have HN5 : Aside0 (∃ b, v5.ownBlock = some b) := ⟨by rcases hat with e | ⟨b, e, _⟩; exact e ▸ (HN4.out.elim fun b hb => ⟨b, hb.1⟩); exact ⟨b, e⟩⟩; clear ho hb hg hat; obtain ⟨gv, cvv, hv5, _⟩ := row_some HO5.out (by rintro rfl; obtain ⟨b, hb⟩ := HN5.out; simp [Value.ownBlock] at hb); subst hv5; have HR5 : Aside0 (SK.R 22 w5 w.heap.size (fun _ => True) (.slice Av t.length cv) t) := ⟨Kd.R_below HR3.out HB5.out⟩; obtain ⟨g5, u5, he5, _, hcell5, hfr5, _, _⟩ := sk_at HR5.out j hjt; subst he5)
          | (go_at_call 30; have HR6 : Aside0 (SK.R 22 (w5.setCell ⟨g5, j, none⟩ (.slice (some ⟨gv, 0, none⟩) r.length cvv)) w.heap.size (fun _ => True) (.slice (some ⟨g5, 0, none⟩) t.length cv) (t.set j (some r))) := ⟨sk_set HR5.out j hjt (some r) (.slice (some ⟨gv, 0, none⟩) r.length cvv) _ (SK.M_lower HB3.out.size (SK.M_bound (m_of_row HO5.out HN5.out))) (fun q hq => ⟨trivial, by have h9 := Kd.R_lt HR3.out g5 rfl; have h8 := hq.2.1; omega⟩)⟩; refine (page_any _ (some ⟨g5, 0, none⟩) t.length cv (t.set j (some r)) ?hcd hcv ?hft ?hbt).mono ?_; (case hcd => have h9 := (Kd.R_reads' HR6.out).2.2; rw [List.length_set] at h9; exact h9); (case hft => exact HFT.out); (case hbt => exact HBT.out); rintro e w7 ⟨v7, rfl, HR7, HB7⟩; have HB6 : Aside0 (Below w.heap.size w (w5.setCell ⟨g5, j, none⟩ (.slice (some ⟨gv, 0, none⟩) r.length cvv))) := ⟨(HB3.out.trans (HB5.out.mono HB3.out.size)).setCell (p := ⟨g5, j, none⟩) (Kd.R_base HR3.out g5 rfl) (.slice (some ⟨gv, 0, none⟩) r.length cvv)⟩))
        go_ret2
        exact ⟨⟨_, rfl, Kd.R_lower HR7.out HB6.out.size⟩, ⟨HB6.out.trans (HB7.out.mono HB6.out.size)⟩⟩

end Go.Proofs.Ytbffeibcndbmgaa.Pg

/-! ## RefLaws -/
set_option linter.unusedVariables false
set_option linter.unusedSimpArgs false
namespace Go.Proofs.Ytbffeibcndbmgaa.Pg
open Go.RowKit Go.Proofs.YtbffeibcndbmgaaW.PrintWords Go.Proofs.YtbffeibcndbmgaaW.PrintLast Go.Proofs.YtbffeibcndbmgaaW.PrintMore Go.Proofs.Ytbffeibcndbmgaa.GRef

theorem rf_read {p : List Int} (hb : Bytes p) : longstopref12_read.f p = some (ofS ((readL p).getD []), (readL p).isSome) := by
  unfold longstopref12_read.f
  rw [if_pos (bytesB_iff.2 hb)]
theorem rf_none {p : List Int} (hb : Bytes p) (h : readL p = none) : longstopref12_read.f p = some ([], false) := by
  rw [rf_read hb, h]
  rfl
theorem rf_some {p : List Int} {s : Slots} (hb : Bytes p) (h : readL p = some s) : longstopref12_read.f p = some (ofS s, true) := by
  rw [rf_read hb, h]
  rfl

theorem f1_ofS (s : Slots) (j : Nat) (h : j < s.length) : (rd_T59 (ofS s) (j : Int)).f1 = (s.getD j none).isSome := by
  unfold rd_T59 ofS
  rw [Int.toNat_natCast, List.getD_eq_getElem?_getD, List.getElem?_map, List.getD_eq_getElem?_getD, List.getElem?_eq_getElem h]
  cases s[j] <;> rfl
theorem set_ofS (s : Slots) (j : Nat) (x : Option (List Int)) (y : S59) (hy : ofS [x] = [y]) : (ofS s).set j y = ofS (s.set j x) := by
  unfold ofS at *
  rw [List.map_set]
  simp only [List.map_cons, List.map_nil, List.cons.injEq, and_true] at hy
  rw [← hy]

theorem get_ref (p : List Int) (hb : Bytes p) (i : Int) : longstopref12_Get.f p i = some ((getL p i).getD [], (getL p i).isSome) := by
  unfold longstopref12_Get.f getL
  rw [rf_read hb, Option.bind_some]
  simp only
  obtain ⟨s, hs⟩ : ∃ s, s = (readL p).getD [] := ⟨_, rfl⟩
  rw [← hs, ofS_length]
  by_cases h0 : i < 0
  · rw [if_pos h0, if_neg (show ¬ 0 ≤ i by omega)]
    rfl
  · rw [if_neg h0, if_pos (show 0 ≤ i by omega)]
    obtain ⟨j, rfl⟩ := Int.eq_ofNat_of_zero_le (show 0 ≤ i by omega)
    rw [Int.toNat_natCast]
    by_cases h1 : (j : Int) ≥ (s.length : Int)
    · rw [if_pos h1, List.getD_eq_getElem?_getD, List.getElem?_eq_none (by omega)]
      rfl
    · rw [if_neg h1, if_pos (show 0 ≤ (j : Int) by omega), if_pos (show (j : Int) < (s.length : Int) by omega), f1_ofS s j (by omega), rd_ofS s j (by omega)]
      cases s.getD j none <;> rfl
theorem right_ref (p : List Int) (hb : Bytes p) : longstopref12_Right.f p = some (rightL p) := by
  unfold longstopref12_Right.f rightL
  rw [rf_read hb, Option.bind_some]
theorem slots_ref (p : List Int) (hb : Bytes p) : longstopref12_Slots.f p = some (slotsL p) := by
  unfold longstopref12_Slots.f slotsL
  rw [rf_read hb, Option.bind_some]
  simp only
  rw [ofS_length]
theorem room_ref (p : List Int) (hb : Bytes p) : ∃ k, longstopref12_Room.f k p = some (roomP p) := by
  unfold longstopref12_Room.f roomP
  cases h : readL p with
  | none => exact ⟨0, by rw [rf_none hb h, Option.bind_some, if_neg (by simp)]⟩
  | some s =>
    obtain ⟨_, hf, _, _, hl⟩ := readL_some hb h
    unfold Fits at hf
    refine ⟨s.length + 1, ?_⟩
    rw [rf_some hb h, Option.bind_some, if_pos rfl]
    simp only
    rw [roomS s (by omega) (by omega), Option.bind_some]
theorem new_ref : longstopref12_New.f = some (pageL []) := by
  unfold longstopref12_New.f
  have h : longstopref12_write.f (ofS []) = some (pageL []) := writeS (by unfold Fits; simp [sizes]) (fun r hr => by simp at hr)
  rw [show ([] : List S59) = ofS [] from rfl, h, Option.bind_some]

theorem free_ref (s : Slots) (j : Nat) (hj : j ≤ free s) : j < free s → (s.getD j none).isSome = true := by
  induction s generalizing j with
  | nil => intro h; simp [free] at h
  | cons x l ih =>
    cases x with
    | none => intro h; simp [free] at h
    | some r =>
      intro h
      cases j with
      | zero => rfl
      | succ j =>
        simp only [free] at h hj
        have := ih j (by omega) (by omega)
        simpa [List.getD_eq_getElem?_getD] using this

theorem byts_put {s : Slots} {r : List Int} {k : Nat} (hs : ∀ q, some q ∈ s → Bytes q) (hr : Bytes r) : ∀ q, some q ∈ s.set k (some r) → Bytes q := by
  intro q hq
  rcases mem_set hq with h | h
  · exact hs q h
  · injection h with h
    rw [h]
    exact hr
theorem byts_gone {s : Slots} {k : Nat} (hs : ∀ q, some q ∈ s → Bytes q) : ∀ q, some q ∈ s.set k none → Bytes q := by
  intro q hq
  rcases mem_set hq with h | h
  · exact hs q h
  · cases h

theorem ins_j2 (s : Slots) (r : List Int) (k x : Nat) (hx : x < s.length) (hn : s.getD x none = none) (hl : s.length ≤ 1000) (hz : sizes s ≤ 504) (hs : ∀ q, some q ∈ s → Bytes q) (hr : Bytes r) (hk : s.length + 1 ≤ k) :
    longstopref12_Insert.j2 (k + 1) r (ofS s) (x : Int) = some (if (r.length : Int) > roomL s then ([], 0, 7) else (pageL (s.set x (some r)), (x : Int), 0)) := by
  have h1 : longstopref12_room.f k (ofS s) = some (roomL s) := by
    have := room_more (s.length + 1) (k - (s.length + 1)) (ofS s) _ (roomS s hl (by omega))
    rwa [Nat.add_sub_cancel' hk] at this
  rw [longstopref12_Insert.j2, h1, Option.bind_some]
  by_cases hb : (r.length : Int) > roomL s
  · rw [if_pos hb, if_pos hb]
  · rw [if_neg hb, if_neg hb, if_pos (by omega), if_pos (by rw [ofS_length]; omega), Int.toNat_natCast, set_ofS s x (some r) ⟨r, true⟩ rfl, writeS (put_fits hx hn (by omega)) (byts_put hs hr), Option.bind_some]
theorem ins_j1 (s : Slots) (r : List Int) (k : Nat) (hl : s.length ≤ 900) (hz : sizes s ≤ 504) (hs : ∀ q, some q ∈ s → Bytes q) (hr : Bytes r) (hk : s.length + 3 ≤ k) :
    longstopref12_Insert.j1 (k + 1) r (ofS s) (free s : Int) = some (if (r.length : Int) > roomL (grow s) then ([], 0, 7) else (pageL ((grow s).set (free s) (some r)), (free s : Int), 0)) := by
  have hg := grow_length s
  have hgz := grow_sizes s
  have hgn := grow_none s
  have hfl := free_le s
  obtain ⟨k, rfl⟩ : ∃ m, k = m + 1 := ⟨k - 1, by omega⟩
  rw [longstopref12_Insert.j1]
  by_cases h : free s < s.length
  · have hgs : grow s = s := by unfold grow; rw [if_pos h]
    rw [hgs] at hg hgz hgn ⊢
    rw [if_neg (by rw [ofS_length]; omega)]
    exact ins_j2 s r k (free s) hg.1 hgn (by omega) hz hs hr (by omega)
  · have hgs : grow s = s ++ [none] := by unfold grow; rw [if_neg h]
    rw [hgs] at hg hgz hgn ⊢
    rw [if_pos (by rw [ofS_length]; omega), if_pos (by rw [ofS_length]; omega)]
    have e : ofS s ++ [(⟨([] : List Int), false⟩ : S59)] = ofS (s ++ [none]) := by rw [ofS_append]; rfl
    rw [e]
    have hl2 : (s ++ [none]).length = s.length + 1 := by simp
    exact ins_j2 (s ++ [none]) r k (free s) hg.1 hgn (by omega) (by omega) (fun q hq => by
      rcases List.mem_append.1 hq with h | h
      · exact hs q h
      · simp at h) hr (by omega)
theorem ins_l0 (s : Slots) (r : List Int) (hl : s.length ≤ 900) (hz : sizes s ≤ 504) (hs : ∀ q, some q ∈ s → Bytes q) (hr : Bytes r) : ∀ d j k, j + d = free s → s.length + 4 + d ≤ k →
    longstopref12_Insert.l0 (k + 1) r (ofS s) (j : Int) = some (if (r.length : Int) > roomL (grow s) then ([], 0, 7) else (pageL ((grow s).set (free s) (some r)), (free s : Int), 0)) := by
  intro d
  have hfl := free_le s
  induction d with
  | zero =>
    intro j k h hk
    obtain rfl : j = free s := by omega
    obtain ⟨k, rfl⟩ : ∃ m, k = m + 1 := ⟨k - 1, by omega⟩
    have h1 := ins_j1 s r k hl hz hs hr (by omega)
    rw [longstopref12_Insert.l0]
    by_cases hlt : free s < s.length
    · rw [if_pos (by rw [ofS_length]; omega), if_pos (by omega), f1_ofS s _ hlt, free_none s hlt, if_neg (by simp)]
      exact h1
    · rw [if_neg (by rw [ofS_length]; omega)]
      exact h1
  | succ d ih =>
    intro j k h hk
    obtain ⟨k, rfl⟩ : ∃ m, k = m + 1 := ⟨k - 1, by omega⟩
    have e : wrap64 ((j : Int) + 1) = ((j + 1 : Nat) : Int) := by rw [ws (by omega) (by omega)]; omega
    rw [longstopref12_Insert.l0, if_pos (by rw [ofS_length]; omega), if_pos (by omega), f1_ofS s j (by omega), if_pos (free_ref s j (by omega) (by omega)), e]
    exact ih (j + 1) k (by omega) (by omega)
theorem insert_ref (p r : List Int) (hb : Bytes p) (hr : Bytes r) : ∃ k, longstopref12_Insert.f k p r = some (insertL p r) := by
  unfold longstopref12_Insert.f insertL
  cases h : readL p with
  | none => exact ⟨0, by rw [rf_none hb h, Option.bind_some, if_neg (by simp)]⟩
  | some s =>
    obtain ⟨_, hf, hs, _, hl⟩ := readL_some hb h
    unfold Fits at hf
    refine ⟨s.length + 4 + free s + 1, ?_⟩
    rw [rf_some hb h, Option.bind_some, if_pos rfl]
    exact ins_l0 s r (by omega) (by omega) hs hr (free s) 0 _ (by omega) (Nat.le_refl _)

theorem badAt_false {s : Slots} {j : Nat} (h : j < s.length) : badAt s (j : Int) = (s.getD j none).isNone := by
  unfold badAt
  rw [decide_eq_false (by omega), decide_eq_false (show ¬ (j : Int) ≥ (s.length : Int) by omega), Int.toNat_natCast]
  simp
theorem badAt_low {s : Slots} {i : Int} (h : i < 0) : badAt s i = true := by
  unfold badAt
  rw [decide_eq_true h]
  rfl
theorem badAt_high {s : Slots} {i : Int} (h : i ≥ (s.length : Int)) : badAt s i = true := by
  unfold badAt
  rw [decide_eq_true h]
  simp

theorem delete_ref (p : List Int) (i : Int) (hb : Bytes p) : longstopref12_Delete.f p i = some (deleteL p i) := by
  unfold longstopref12_Delete.f deleteL
  cases h : readL p with
  | none => rw [rf_none hb h, Option.bind_some, if_neg (by simp)]
  | some s =>
    obtain ⟨_, hf, hs, _, hl⟩ := readL_some hb h
    rw [rf_some hb h, Option.bind_some, if_pos rfl]
    simp only
    rw [ofS_length]
    by_cases h0 : i < 0
    · rw [if_pos h0, if_pos (badAt_low h0)]
    · rw [if_neg h0]
      obtain ⟨j, rfl⟩ := Int.eq_ofNat_of_zero_le (show 0 ≤ i by omega)
      by_cases h1 : (j : Int) ≥ (s.length : Int)
      · rw [if_pos h1, if_pos (badAt_high h1)]
      · have hj : j < s.length := by omega
        rw [if_neg h1, if_pos (by omega), if_pos (by omega), f1_ofS s j hj, badAt_false hj]
        cases hx : s.getD j none with
        | none => rw [if_neg (by simp), if_pos (show (none : Option (List Int)).isNone = true from rfl)]
        | some q =>
          have hg := sizes_gone s j
          unfold Fits at hf
          have hf2 : Fits (s.set j none) := by unfold Fits; rw [List.length_set]; omega
          rw [if_pos (show (some q).isSome = true from rfl), if_neg (by simp), Int.toNat_natCast, set_ofS s j none ⟨[], false⟩ rfl, writeS hf2 (byts_gone hs), Option.bind_some]

theorem sizes_some : ∀ (s : Slots) (j : Nat), sizes (s.set j (some [])) = sizes (s.set j none)
  | [], j => by simp [sizes]
  | x :: l, 0 => by simp [sizes]
  | x :: l, j + 1 => by simp [sizes, sizes_some l j]
theorem roomL_some (s : Slots) (j : Nat) : roomL (s.set j (some [])) = roomL (s.set j none) := by
  unfold roomL
  rw [sizes_some, List.length_set, List.length_set]

theorem update_ref (p : List Int) (i : Int) (r : List Int) (hb : Bytes p) (hr : Bytes r) : ∃ k, longstopref12_Update.f k p i r = some (updateL p i r) := by
  unfold longstopref12_Update.f updateL
  cases h : readL p with
  | none => exact ⟨0, by rw [rf_none hb h, Option.bind_some, if_neg (by simp)]⟩
  | some s =>
    obtain ⟨_, hf, hs, _, hl⟩ := readL_some hb h
    refine ⟨s.length + 2, ?_⟩
    rw [rf_some hb h, Option.bind_some, if_pos rfl]
    simp only
    rw [ofS_length]
    by_cases h0 : i < 0
    · rw [if_pos h0, if_pos (badAt_low h0), longstopref12_Update.j0, if_pos rfl]
    · rw [if_neg h0]
      obtain ⟨j, rfl⟩ := Int.eq_ofNat_of_zero_le (show 0 ≤ i by omega)
      by_cases h1 : (j : Int) ≥ (s.length : Int)
      · rw [if_pos h1, if_pos (badAt_high h1), longstopref12_Update.j0, if_pos rfl]
      · have hj : j < s.length := by omega
        rw [if_neg h1, if_pos (by omega), if_pos (by omega), f1_ofS s j hj, badAt_false hj, longstopref12_Update.j0]
        cases hx : s.getD j none with
        | none => rw [if_pos (by simp), if_pos (show (none : Option (List Int)).isNone = true from rfl)]
        | some q =>
          have hg := sizes_gone s j
          unfold Fits at hf
          have e1 : (ofS s).set j (⟨[], true⟩ : S59) = ofS (s.set j (some [])) := set_ofS s j (some []) ⟨[], true⟩ rfl
          have hl2 : (s.set j (some [])).length = s.length := List.length_set ..
          have hz2 : sizes (s.set j (some [])) ≤ 504 := by rw [sizes_some]; omega
          have hrm := roomS (s.set j (some [])) (by omega) (by omega)
          rw [hl2, roomL_some] at hrm
          have hj2 : j < (s.set j (some [])).length := by omega
          have hj3 : j < (s.set j none).length := by rw [List.length_set]; exact hj
          rw [if_neg (by simp), if_pos (by omega), if_pos (by rw [ofS_length]; omega), f1_ofS s j hj, hx, Int.toNat_natCast, Option.isSome_some, e1, Option.bind_some, hrm, Option.bind_some, if_neg (show ¬ (some q).isNone = true by simp)]
          by_cases hbig : (r.length : Int) > roomL (s.set j none)
          · rw [if_pos hbig, if_pos hbig]
          · have e2 : (ofS (s.set j (some []))).set j (⟨r, true⟩ : S59) = ofS ((s.set j none).set j (some r)) := by
              rw [set_ofS _ j (some r) ⟨r, true⟩ rfl, List.set_set, List.set_set]
            rw [if_neg hbig, if_neg hbig, f1_ofS _ j hj2]
            have e3 : ((s.set j (some [])).getD j none).isSome = true := by
              rw [List.getD_eq_getElem?_getD, List.getElem?_set_self hj]
              rfl
            rw [e3, e2, writeS (put_fits hj3 (set_none s j) (by omega)) (byts_put (byts_gone hs) hr), Option.bind_some]

end Go.Proofs.Ytbffeibcndbmgaa.Pg

/-! ## Back -/
set_option linter.unusedVariables false
set_option linter.unusedSimpArgs false
namespace Go.Proofs.Ytbffeibcndbmgaa.Pg
open Go.RowKit Go.Proofs.YtbffeibcndbmgaaW.PrintWords Go.Proofs.YtbffeibcndbmgaaW.PrintLast Go.Proofs.YtbffeibcndbmgaaW.PrintMore Go.Proofs.Ytbffeibcndbmgaa.PPageSteps

theorem drop_slot' (s : Slots) (j : Nat) (h : j < s.length) : s.drop j = s.getD j none :: s.drop (j + 1) := by
  rw [List.drop_eq_getElem_cons h, List.getD_eq_getElem?_getD, List.getElem?_eq_getElem h]
  rfl
theorem two_num (n : Nat) (h : n < 65536) (l : List Int) : num2 (two n ++ l) = n := by
  unfold num2 rd two
  simp
  omega
theorem trim_trim (s : Slots) : trim (trim s) = trim s := by
  induction s with
  | nil => rfl
  | cons x l ih =>
    cases ht : trim l with
    | nil => cases x <;> simp [trim, ht]
    | cons y m =>
      rw [ht] at ih
      have e : trim (x :: l) = x :: y :: m := by simp [trim, ht]
      rw [e]
      show trim (x :: y :: m) = _
      rw [trim.eq_def]
      simp only [ih]
theorem pageL_num {s : Slots} (h : Fits s) : num2 (pageL s) = ((trim s).length : Int) := by
  have hf := trim_fits h
  unfold Fits at hf
  unfold pageL body
  rw [List.append_assoc]
  exact two_num _ (by omega) _

theorem fields_drop (t : Slots) (E : List Int) (j : Nat) (hj : j ≤ t.length) : (body t ++ E).drop (2 + 4 * j) = fieldsL (504 - sizes (t.take j)) (t.drop j) ++ (zeros (502 - 4 * t.length - sizes t) ++ (recsL t ++ E)) := by
  have e1 : fieldsL 504 t = fieldsL 504 (t.take j) ++ fieldsL (504 - sizes (t.take j)) (t.drop j) := by
    rw [← fieldsL_append, List.take_append_drop]
  have e2 : (two t.length ++ fieldsL 504 (t.take j)).length = 2 + 4 * j := by
    rw [List.length_append, fieldsL_length, List.length_take, Nat.min_eq_left hj]
    rfl
  unfold body
  rw [e1]
  have e3 : two t.length ++ ((fieldsL 504 (t.take j) ++ fieldsL (504 - sizes (t.take j)) (t.drop j)) ++ (zeros (502 - 4 * t.length - sizes t) ++ recsL t)) ++ E
      = (two t.length ++ fieldsL 504 (t.take j)) ++ (fieldsL (504 - sizes (t.take j)) (t.drop j) ++ (zeros (502 - 4 * t.length - sizes t) ++ (recsL t ++ E))) := by simp
  rw [e3, ← e2, List.drop_left]
/-- a record's bytes lie at its place. -/
theorem rec_at (t : Slots) (E r : List Int) (j : Nat) (hj : j < t.length) (hx : t.getD j none = some r) (hf : Fits t) : ((body t ++ E).drop (504 - sizes (t.take j) - r.length)).take r.length = r := by
  have hb := body_length t hf
  unfold Fits at hf
  have hd : t = t.take j ++ some r :: t.drop (j + 1) := by
    rw [← hx, ← drop_slot' t j hj, List.take_append_drop]
  have hs : sizes t = sizes (t.take j) + (r.length + sizes (t.drop (j + 1))) := by
    conv => lhs; rw [hd]
    rw [sizes_append]
    rfl
  have hr : recsL t = (recsL (t.drop (j + 1)) ++ r) ++ recsL (t.take j) := by
    conv => lhs; rw [hd]
    rw [recsL_append]
    rfl
  have e2 : (two t.length ++ (fieldsL 504 t ++ (zeros (502 - 4 * t.length - sizes t) ++ recsL (t.drop (j + 1))))).length = 504 - sizes (t.take j) - r.length := by
    simp only [List.length_append, fieldsL_length, zeros_length, recsL_length]
    show 2 + _ = _
    omega
  have e3 : body t ++ E = (two t.length ++ (fieldsL 504 t ++ (zeros (502 - 4 * t.length - sizes t) ++ recsL (t.drop (j + 1))))) ++ (r ++ (recsL (t.take j) ++ E)) := by
    unfold body
    rw [hr]
    simp
  rw [e3, ← e2, List.drop_left, List.take_left]

theorem back_step (t : Slots) (E : List Int) (j : Nat) (hj : j < t.length) (hf : Fits t) : readStep (body t ++ E) (fieldAt (body t ++ E) j) (t.take j, ((504 - sizes (t.take j) : Nat) : Int)) = some (t.take (j + 1), ((504 - sizes (t.take (j + 1)) : Nat) : Int)) := by
  have hd := fields_drop t E j (by omega)
  have hz := sizes_take_le t (j + 1)
  have hts := take_snoc t j hj
  have hf2 := hf
  unfold Fits at hf
  rw [drop_slot' t j hj] at hd
  unfold fieldAt
  have hdd : (body t ++ E).drop (2 + 4 * j + 2) = ((body t ++ E).drop (2 + 4 * j)).drop 2 := by rw [List.drop_drop]
  rw [hdd, hd, hts, sizes_append]
  rw [hts, sizes_append] at hz
  cases hx : t.getD j none with
  | none =>
    have e : readStep (body t ++ E) (0, num2 (((fieldsL (504 - sizes (t.take j)) (none :: t.drop (j + 1)) ++ (zeros (502 - 4 * t.length - sizes t) ++ (recsL t ++ E))).drop 2).take 2)) (t.take j, ((504 - sizes (t.take j) : Nat) : Int)) = some (t.take j ++ [none], ((504 - sizes (t.take j) : Nat) : Int)) := rfl
    have e0 : num2 ((fieldsL (504 - sizes (t.take j)) (none :: t.drop (j + 1)) ++ (zeros (502 - 4 * t.length - sizes t) ++ (recsL t ++ E))).take 4) = 0 := rfl
    rw [e0, e]
    rfl
  | some r =>
    rw [hx] at hz
    simp only [sizes, Option.getD_some, Nat.add_zero] at hz
    have hrec := rec_at t E r j hj hx hf2
    obtain ⟨R, hR⟩ : ∃ R, R = fieldsL (504 - sizes (t.take j) - r.length) (t.drop (j + 1)) ++ (zeros (502 - 4 * t.length - sizes t) ++ (recsL t ++ E)) := ⟨_, rfl⟩
    have e1 : fieldsL (504 - sizes (t.take j)) (some r :: t.drop (j + 1)) ++ (zeros (502 - 4 * t.length - sizes t) ++ (recsL t ++ E)) = two (504 - sizes (t.take j) - r.length) ++ (two r.length ++ R) := by
      rw [hR]
      simp [fieldsL]
    have e2 : (two (504 - sizes (t.take j) - r.length) ++ (two r.length ++ R)).take 4 = two (504 - sizes (t.take j) - r.length) ++ two r.length := rfl
    have e3 : ((two (504 - sizes (t.take j) - r.length) ++ (two r.length ++ R)).drop 2).take 2 = two r.length ++ [] := rfl
    rw [e1, e2, e3, two_num _ (by omega), two_num _ (by omega)]
    unfold readStep
    simp only [sizes, Option.getD_some, Nat.add_zero, Int.toNat_natCast]
    rw [if_neg (by omega), if_neg (by omega), hrec]
    congr 2
    omega
theorem back_coll (t : Slots) (E : List Int) (hf : Fits t) (hb : Bytes (body t ++ E)) (hl : (body t ++ E).length = 512) : ∀ j, j ≤ t.length → coll (body t ++ E) (flds (body t ++ E) j) = some (t.take j, ((504 - sizes (t.take j) : Nat) : Int)) := by
  intro j
  induction j with
  | zero => intro _; rfl
  | succ j ih =>
    intro h
    have hf3 := hf
    unfold Fits at hf3
    rw [flds_succ, coll_snoc, ih (by omega), Option.bind_some, fieldOf_eq hb j (by omega)]
    exact back_step t E j (by omega) hf

/-- what was written is read: the slots, but for empty ones at the end. -/
theorem read_back (s : Slots) (h : Fits s) (hb : Bytes (pageL s)) : readL (pageL s) = some (trim s) := by
  have hf := trim_fits h
  have hn := pageL_num h
  have hl := pageL_length h
  have hp : pageL s = body (trim s) ++ eight (crc (body (trim s))) := rfl
  have hc := back_coll (trim s) (eight (crc (body (trim s)))) hf (by rw [← hp]; exact hb) (by rw [← hp]; exact hl) (trim s).length (Nat.le_refl _)
  rw [← hp, List.take_of_length_le (Nat.le_refl _)] at hc
  have hpt : pageL (trim s) = pageL s := by
    unfold pageL
    rw [trim_trim]
  have hr : ¬ roomL (trim s) < 0 := by
    unfold Fits at hf
    unfold roomL
    omega
  unfold Fits at hf
  unfold readL
  rw [hn, if_neg (by rintro (h1 | h1); exact h1 hl; omega), Int.toNat_natCast, hc, Option.bind_some, if_neg (by rintro (h1 | h1); exact hr h1; exact h1 hpt)]

end Go.Proofs.Ytbffeibcndbmgaa.Pg

/-! ## Knows -/
set_option linter.unusedVariables false
set_option linter.unusedSimpArgs false
namespace Go.Proofs.Ytbffeibcndbmgaa.Pg
open Go.RowKit Go.Proofs.YtbffeibcndbmgaaW.PrintWords Go.Proofs.YtbffeibcndbmgaaW.PrintLast Go.Proofs.YtbffeibcndbmgaaW.PrintMore Go.Proofs.Ytbffeibcndbmgaa.PPageSteps

theorem bytes_eight (c : Int) : Bytes (eight c) := by
  intro x hx
  unfold eight at hx
  obtain ⟨i, _, rfl⟩ := List.mem_map.1 hx
  unfold byteAt
  omega
theorem trim_in {r : List Int} : ∀ {s : Slots}, some r ∈ trim s → some r ∈ s
  | [], h => by simp [trim] at h
  | x :: l, h => by
    cases ht : trim l with
    | nil =>
      cases x with
      | none => simp [trim, ht] at h
      | some q => simp [trim, ht] at h; simp [h]
    | cons y m =>
      have ih := @trim_in r l
      rw [ht] at ih
      simp only [trim, ht] at h
      rcases List.mem_cons.1 h with h | h
      · rw [h]; simp
      · exact List.mem_cons_of_mem _ (ih h)
theorem bytes_pageL {s : Slots} (h : ∀ r, some r ∈ s → Bytes r) : Bytes (pageL s) := bytes_append (bytes_body fun r hr => h r (trim_in hr)) (bytes_eight _)

theorem fits0 : Fits [] := by unfold Fits; simp [sizes]
theorem fits1 : Fits [some [97]] := by unfold Fits; simp [sizes]
theorem byts0 : Bytes (pageL []) := bytes_pageL fun r hr => by simp at hr
theorem byts1 : Bytes (pageL [some [97]]) := bytes_pageL fun r hr => by
  obtain rfl : r = [97] := by simpa using hr
  intro x hx
  obtain rfl : x = 97 := by simpa using hx
  omega
theorem read0 : readL (pageL []) = some [] := read_back [] fits0 byts0
theorem read1 : readL (pageL [some [97]]) = some [some [97]] := read_back [some [97]] fits1 byts1
theorem rm0 : ¬ (([97] : List Int).length : Int) > roomL [none] := by
  simp only [roomL, sizes, List.length_cons, List.length_nil, Option.getD_none]
  omega
theorem rm1 : roomL [some [97]] = 497 := by
  simp only [roomL, sizes, List.length_cons, List.length_nil, Option.getD_some]
  omega
theorem insertL_some {p r : List Int} {s : Slots} (h : readL p = some s) : insertL p r = if (r.length : Int) > roomL (grow s) then ([], 0, 7) else (pageL ((grow s).set (free s) (some r)), (free s : Int), 0) := by
  unfold insertL
  rw [h]
theorem roomP_some {p : List Int} {s : Slots} (h : readL p = some s) : roomP p = roomL s := by
  unfold roomP
  rw [h]
theorem grow0 : grow [] = [none] := by simp [grow, free]
theorem insert0 : insertL (pageL []) [97] = (pageL [some [97]], 0, 0) := by
  have h := insertL_some (r := [97]) read0
  rw [grow0, if_neg rm0] at h
  exact h
theorem get1 : getL (pageL [some [97]]) 0 = some [97] := by
  unfold getL
  rw [read1]
  rfl
theorem room1 : roomP (pageL [some [97]]) = 497 := (roomP_some read1).trans rm1
theorem slots1 : slotsL (pageL [some [97]]) = 1 := by
  unfold slotsL
  rw [read1]
  rfl
theorem right1 : rightL (pageL [some [97]]) = true := by
  unfold rightL
  rw [read1]
  rfl

end Go.Proofs.Ytbffeibcndbmgaa.Pg

/-! ## Know -/
set_option linter.unusedVariables false
set_option linter.unusedSimpArgs false
namespace Go.Proofs.Ytbffeibcndbmgaa.Pg
open Go.RowKit Go.Proofs.YtbffeibcndbmgaaW.PrintWords Go.Proofs.YtbffeibcndbmgaaW.PrintLast Go.Proofs.YtbffeibcndbmgaaW.PrintMore Go.Proofs.Ytbffeibcndbmgaa.PPageSteps

/-- two pages: one without slots, one with a record in its only slot. -/
structure TwoPages (p0 p1 : List Int) : Prop where
  new : p0 = pageL []
  b0 : Bytes p0
  b1 : Bytes p1
  ins : insertL p0 [97] = (p1, 0, 0)
  get : getL p1 0 = some [97]
  room : roomP p1 = 497
  slots : slotsL p1 = 1
  right : rightL p1 = true
theorem two_pages : ∃ p0 p1, TwoPages p0 p1 := ⟨_, _, ⟨rfl, byts0, byts1, insert0, get1, room1, slots1, right1⟩⟩

theorem k_new {kp0 kp1 : List Int} (H : TwoPages kp0 kp1) (w : World) : Calls Try.prog 15 #[] w fun e w' => ∃ v, e = .returned v ∧ Aside0 (Kd.R (Kd.int .u8) 5 w' w.heap.size (fun _ => True) v kp0) ∧ Aside0 (Below w.heap.size w w') := by
  have h := new_any w
  rw [← H.new] at h
  exact h
theorem k_insert {kp0 kp1 : List Int} (H : TwoPages kp0 kp1) (w : World) (A : Option Addr) (c : Nat) (A1 : Option Addr) (c1 : Nat) (hp : Kd.C (Kd.int .u8) w A kp0.length kp0) (hc : kp0.length ≤ c) (hr : Kd.C (Kd.int .u8) w A1 1 [97]) (hc1 : 1 ≤ c1) :
    Calls Try.prog 19 #[.slice A kp0.length c, .slice A1 1 c1] w fun e w' => ∃ v, e = .returned (.tuple #[v, .int .i64 0, .int .i64 0]) ∧ Aside0 (Kd.R (Kd.int .u8) 5 w' w.heap.size (fun _ => True) v kp1) ∧ Aside0 (Below w.heap.size w w') := by
  refine (insert_any w A kp0.length c kp0 A1 c1 [97] hp hc H.b0 hr hc1 (fun x hx => by
    obtain rfl : x = 97 := by simpa using hx
    omega) (by simp)).mono ?_
  rintro e w' ⟨⟨h1⟩, h2⟩
  rw [H.ins] at h1
  obtain ⟨v, he, hR⟩ := h1
  exact ⟨v, he, ⟨hR⟩, h2⟩
theorem k_get {kp0 kp1 : List Int} (H : TwoPages kp0 kp1) (w : World) (A : Option Addr) (c : Nat) (hp : Kd.C (Kd.int .u8) w A kp1.length kp1) (hc : kp1.length ≤ c) :
    Calls Try.prog 7 #[.slice A kp1.length c, .int .i64 0] w fun e w' => ∃ v, e = .returned (.tuple #[v, .bool true]) ∧ Aside0 (Kd.R (Kd.int .u8) 5 w' w.heap.size (fun _ => True) v [97]) ∧ Aside0 (Below w.heap.size w w') := by
  refine (get_any w A kp1.length c kp1 0 hp hc H.b1).mono ?_
  rintro e w' ⟨⟨h1⟩, h2⟩
  rw [H.get] at h1
  obtain ⟨v, he, hR⟩ := h1
  exact ⟨v, he, ⟨hR⟩, h2⟩
theorem k_room {kp0 kp1 : List Int} (H : TwoPages kp0 kp1) (w : World) (A : Option Addr) (c : Nat) (hp : Kd.C (Kd.int .u8) w A kp1.length kp1) (hc : kp1.length ≤ c) :
    Calls Try.prog 13 #[.slice A kp1.length c] w fun e w' => e = .returned (.int .i64 497) ∧ Aside0 (Below w.heap.size w w') := by
  have h := room_page w A kp1.length c kp1 hp hc H.b1
  rw [H.room] at h
  exact h
theorem k_slots {kp0 kp1 : List Int} (H : TwoPages kp0 kp1) (w : World) (A : Option Addr) (c : Nat) (hp : Kd.C (Kd.int .u8) w A kp1.length kp1) (hc : kp1.length ≤ c) :
    Calls Try.prog 11 #[.slice A kp1.length c] w fun e w' => e = .returned (.int .i64 1) ∧ Aside0 (Below w.heap.size w w') := by
  have h := slots_any w A kp1.length c kp1 hp hc H.b1
  rw [H.slots] at h
  exact h
theorem k_right {kp0 kp1 : List Int} (H : TwoPages kp0 kp1) (w : World) (A : Option Addr) (c : Nat) (hp : Kd.C (Kd.int .u8) w A kp1.length kp1) (hc : kp1.length ≤ c) :
    Calls Try.prog 9 #[.slice A kp1.length c] w fun e w' => e = .returned (.bool true) ∧ Aside0 (Below w.heap.size w w') := by
  have h := right_any w A kp1.length c kp1 hp hc H.b1
  rw [H.right] at h
  exact h
/-- []byte("a"): its row, with the run-time's mark. -/
theorem lit97 (w : World) : Kd.C (Kd.int .u8) (w.alloc (.cells #[.int .u8 97] 5 (1, 2))) (some ⟨w.heap.size, 0, none⟩) 1 [97] := by
  refine ⟨rfl, by omega, fun _ => ⟨_, rfl, fun j p hj => ?_⟩⟩
  cases j with
  | succ j => simp at hj
  | zero =>
    obtain rfl : 97 = p := by simpa using hj
    refine ⟨[.int .u8 97], rfl, rfl, fun i u hu => ?_⟩
    cases i with
    | succ i => simp at hu
    | zero =>
      obtain rfl : Value.int .u8 97 = u := by simpa using hu
      exact World.cell?_alloc_mark w #[.int .u8 97] 5 (1, 2) 0

theorem num_any (x : Int) (w : World) : Calls Try.prog 25 #[.int .i64 x] w fun e w' => e = .returned (.int .i64 x) ∧ w = w' := by
  go_enter Try.func25, Try.ntmps25
  go_wp2
  go_ret
  exact ⟨rfl, rfl⟩

set_option maxHeartbeats 4000000 in
set_option maxRecDepth 100000 in
theorem knows_any (w : World) : Calls Try.prog 18 #[] w fun e w' => e = .returned (.bool true) ∧ Aside0 (Below w.heap.size w w') := by
  obtain ⟨kp0, kp1, H⟩ := two_pages
  have HB := Aside0.mk (Below.refl w.heap.size w)
  have kc := fun (w : World) (C : Array Value) (n c : Nat) => Lib.run_convert_bytes_const (P := Try.prog) w 22 5 C n c Try.underlying22 Try.underlying5
  go_enter Try.func18, Try.ntmps18
  go_wp2_with (first
    | (go_at_call 15; refine (k_new H _).mono ?_; rintro e w1 ⟨v1, rfl, HR1, HB1⟩; obtain ⟨A1, c1, hv1⟩ := Kd.R_slice HR1.out; subst hv1; have n0_ := Aside0.mk (below_step HB.out HB1.out); clear HB HB1; have HB := n0_; clear n0_)
    | (go_at_call 19; refine (k_insert H _ A1 c1 (some ⟨w1.heap.size, 0, none⟩) 1 ?hp ?hc ?hr (Nat.le_refl _)).mono ?_; (case hp => exact Kd.C_alloc (Kd.R_reads' HR1.out).2.2 _); (case hc => exact (Kd.R_reads' HR1.out).2.1); (case hr => exact lit97 w1); rintro e w3 ⟨v3, rfl, HR3, HB3⟩; obtain ⟨A3, c3, hv3⟩ := Kd.R_slice HR3.out; subst hv3; have n0_ := Aside0.mk (below_step (below_alloc HB.out _) HB3.out); clear HB HB3; have HB := n0_; clear n0_)
    | (go_at_call 7; refine (k_get H _ A3 c3 ?hp ?hc).mono ?_; (case hp => exact (Kd.R_reads' HR3.out).2.2); (case hc => exact (Kd.R_reads' HR3.out).2.1); rintro e w4 ⟨v4, rfl, HR4, HB4⟩; obtain ⟨A4, c4, hv4⟩ := Kd.R_slice HR4.out; rw [show ([97] : List Int).length = 1 from rfl] at hv4; subst hv4; have n1_ := Aside0.mk (Kd.R_below HR3.out HB4.out); have n0_ := Aside0.mk (below_step HB.out HB4.out); clear HB HB4 HR3; have HB := n0_; have HR3 := n1_; clear n0_ n1_; have hcv := own_string (P := Try.prog) Try.underlying22 Try.underlying5 Try.underlying9 (Kd.own_of_R HR4.out); rw [show strOfNums [97] = ⟨#[97]⟩ from rfl] at hcv)
    | (go_at_call 25; refine (num_any _ _).mono ?_; rintro e w' ⟨rfl, rfl⟩)
    | (go_at_call 13; refine (k_room H _ A3 c3 ?hp ?hc).mono ?_; (case hp => exact (Kd.R_reads' HR3.out).2.2); (case hc => exact (Kd.R_reads' HR3.out).2.1); rintro e w5 ⟨rfl, HB5⟩; have n1_ := Aside0.mk (Kd.R_below HR3.out HB5.out); have n0_ := Aside0.mk (below_step HB.out HB5.out); clear HB HB5 HR3; have HB := n0_; have HR3 := n1_; clear n0_ n1_)
    | (go_at_call 11; refine (k_slots H _ A3 c3 ?hp ?hc).mono ?_; (case hp => exact (Kd.R_reads' HR3.out).2.2); (case hc => exact (Kd.R_reads' HR3.out).2.1); rintro e w6 ⟨rfl, HB6⟩; have n1_ := Aside0.mk (Kd.R_below HR3.out HB6.out); have n0_ := Aside0.mk (below_step HB.out HB6.out); clear HB HB6 HR3; have HB := n0_; have HR3 := n1_; clear n0_ n1_)
    | (go_at_call 9; refine (k_right H _ A3 c3 ?hp ?hc).mono ?_; (case hp => exact (Kd.R_reads' HR3.out).2.2); (case hc => exact (Kd.R_reads' HR3.out).2.1); rintro e w7 ⟨rfl, HB7⟩; have n0_ := Aside0.mk (below_step HB.out HB7.out); clear HB HB7; have HB := n0_; clear n0_))
  go_ret
  exact ⟨rfl, HB⟩

end Go.Proofs.Ytbffeibcndbmgaa.Pg

/-! ## Lent -/
set_option linter.unusedVariables false
set_option linter.unusedSimpArgs false
namespace Go.Proofs.Ytbffeibcndbmgaa.Pg
open Go.RowKit Go.Proofs.YtbffeibcndbmgaaW.PrintWords Go.Proofs.YtbffeibcndbmgaaW.PrintLast Go.Proofs.YtbffeibcndbmgaaW.PrintMore Go.Proofs.Ytbffeibcndbmgaa.PPageSteps

/-- v: bytes of one's own, two marks behind them within the room. -/
def LentAs (w : World) (base : Nat) (l : List Int) (v : Value) : Prop := ∃ g c, v = .slice (some ⟨g, 0, none⟩) l.length c ∧ Kd.R (Kd.int .u8) 5 w base (fun _ => True) (.slice (some ⟨g, 0, none⟩) (l.length + 2) c) (l ++ [55, 56])
theorem LentAs.below {w w' : World} {base : Nat} {l : List Int} {v : Value} (h : LentAs w base l v) (hb : Below w.heap.size w w') : LentAs w' base l v := by
  obtain ⟨g, c, hv, hR⟩ := h
  exact ⟨g, c, hv, Kd.R_below hR hb⟩
theorem LentAs.drewN {w : World} {base : Nat} {l : List Int} {v : Value} (h : LentAs w base l v) (n : Nat) : LentAs (w.drewN n) base l v := by
  obtain ⟨g, c, hv, hR⟩ := h
  exact ⟨g, c, hv, Kd.R_drewN hR n⟩
theorem LentAs.reads {w : World} {base : Nat} {l : List Int} {v : Value} (h : LentAs w base l v) : ∃ g c, v = .slice (some ⟨g, 0, none⟩) l.length c ∧ l.length + 2 ≤ c ∧ base ≤ g ∧ Kd.C (Kd.int .u8) w (some ⟨g, 0, none⟩) (l.length + 2) (l ++ [55, 56]) ∧ Kd.C (Kd.int .u8) w (some ⟨g, 0, none⟩) l.length l := by
  obtain ⟨g, c, hv, hR⟩ := h
  obtain ⟨h1, h2, h3⟩ := Kd.R_reads' hR
  have h4 := Kd.C_take (m := l.length) h3 (by simp)
  rw [List.take_left] at h4
  rw [List.length_append] at h3
  exact ⟨g, c, hv, h2, Kd.R_base hR g rfl, h3, h4⟩

set_option maxHeartbeats 4000000 in
set_option maxRecDepth 100000 in
theorem lent_any (w : World) (A0 : Option Addr) (c0 : Nat) (l0 : List Int) (hr0 : Kd.C (Kd.int .u8) w A0 l0.length l0) (hc0 : l0.length ≤ c0) (hl : l0.length ≤ 140737488351232) :
    Calls Try.prog 6 #[.slice A0 l0.length c0] w fun e w' => ∃ v, e = .returned v ∧ Aside0 (LentAs w' w.heap.size l0 v) ∧ Aside0 (Below w.heap.size w w') := by
  have HR0 := Aside0.mk hr0
  have HB := Aside0.mk (Below.refl w.heap.size w)
  clear hr0
  obtain ⟨y3, hy3⟩ : ∃ y : List Int, y = [55, 56] := ⟨_, rfl⟩
  have Y3 := Aside0.mk hy3
  have l3 : y3.length = 2 := by rw [hy3]; rfl
  obtain ⟨y4, hy4⟩ : ∃ y : List Int, y = l0 ++ y3 := ⟨_, rfl⟩
  have Y4 := Aside0.mk hy4
  have L4 : Aside0 (y4.length = l0.length + 2) := ⟨by rw [hy4, List.length_append, l3]⟩
  have L3 := Aside0.mk l3
  clear hy3 hy4 l3
  go_enter Try.func6, Try.ntmps6
  go_wp2_with (first
    | ((with_reducible refine gate_dst (N := 4) rfl ?_); refine Kd.R_lit (Kd.int .u8) _ 5 ?hg (N := 4) ?hd (xs := ([] : List Int)) (inner := []) (ok := fun _ => True) (okp := fun _ => True) ?hr ?hp (fun _ hk => hk) trivial (Below.refl _ _) (Nat.le_refl _) (by simp) ?_; (case hd => rfl); (case hg => rfl); (case hr => first | (go_simp; done) | (go_simp; rfl)); (case hp => exact (Reps.none _ _)); intro v1 w1 ho hb hg_ hnew_; clear hg_ hnew_; have n0_ := Aside0.mk (Kd.R_lower ho (below_size (by repeat (first | (with_reducible first | exact HB.out | apply below_alloc | apply pw_below_drewN | apply below_drew1) | exact HB.out)))); have n1_ := Aside0.mk (below_step (by repeat (first | (with_reducible first | exact HB.out | apply below_alloc | apply pw_below_drewN | apply below_drew1) | exact HB.out)) hb); clear HB; have HO1 := n0_; have HB := n1_; clear n0_ n1_; clear hb ho)
    | ((with_reducible refine gate_builtin (b := .append) (xs := #[.tmp 4, .tmp 5]) rfl ?_); at_builtin; refine Kd.R_append_rows (Kd.int .u8) (w0 := w) w.heap.size rfl (.tmp 4) (.tmp 5) 22 5 (.int .u8 0) 1 rfl Try.underlying22 info5 rfl (by decide) (by omega) v1 [] l0 _ _ _ (fun _ => True) (fun _ => False) rfl rfl ?aO ?aR (fun _ _ h => h) (fun _ h => h.elim) ?aF ?aB ?aS ?aL ?_; (case aR => repeat (first | exact (Kd.C_below HR0.out HB.out) | (with_reducible refine Kd.C_alloc ?_ _))); (case aB => exact (by repeat (first | (with_reducible first | exact HB.out | apply below_alloc | apply pw_below_drewN | apply below_drew1) | exact HB.out))); (case aF => exact (fun _ _ => trivial)); (case aO => exact HO1.out); (case aS => exact (below_size (by repeat (first | (with_reducible first | exact HB.out | apply below_alloc | apply pw_below_drewN | apply below_drew1) | exact HB.out)))); (case aL => rw [List.length_nil]; omega); intro v2 w2 ho hb hg hat; rw [List.nil_append] at ho; have n0_ := Aside0.mk hb; have n1_ := Aside0.mk ho; clear HB HO1; have HB := n0_; have HO2 := n1_; clear n0_ n1_ ho hb hg hat)
    | ((with_reducible refine gate_dst (N := 8) rfl ?_); refine Kd.R_lit (Kd.int .u8) _ 5 ?hg (N := 8) ?hd (xs := ([55, 56] : List Int)) (inner := [.int .u8 55, .int .u8 56]) (ok := fun _ => True) (okp := fun _ => True) ?hr ?hp (fun _ hk => hk) trivial (Below.refl _ _) (Nat.le_refl _) (by simp) ?_; (case hd => rfl); (case hg => rfl); (case hr => first | (go_simp; done) | (go_simp; rfl)); (case hp => exact (Reps.one (show Kd.M (Kd.int .u8) _ _ _ 55 [.int .u8 55] from rfl) (Reps.one (show Kd.M (Kd.int .u8) _ _ _ 56 [.int .u8 56] from rfl) (Reps.none _ _)))); intro v3 w3 ho hb hg_ hnew_; clear hg_ hnew_; rw [← Y3.out] at ho; have n0_ := Aside0.mk (Kd.R_elder' HO2.out (Kd.R_base ho) hb); have n1_ := Aside0.mk (Kd.R_lower (Kd.R_new' ho (Kd.R_lt HO2.out)) (below_size (by repeat (first | (with_reducible first | exact HB.out | apply below_alloc | apply pw_below_drewN | apply below_drew1) | exact HB.out)))); have n2_ := Aside0.mk (below_step (by repeat (first | (with_reducible first | exact HB.out | apply below_alloc | apply pw_below_drewN | apply below_drew1) | exact HB.out)) hb); clear HO2 HB; have HO2 := n0_; have HO3 := n1_; have HB := n2_; clear n0_ n1_ n2_; clear hb ho; obtain ⟨Ao3, co3, eo3⟩ := Kd.R_slice HO3.out; subst eo3)
    | ((with_reducible refine gate_builtin (b := .append) (xs := #[.tmp 7, .tmp 8]) rfl ?_); at_builtin; refine Kd.R_append_rows (Kd.int .u8) (w0 := w) w.heap.size rfl (.tmp 7) (.tmp 8) 22 5 (.int .u8 0) 1 rfl Try.underlying22 info5 rfl (by decide) (by omega) v2 l0 y3 _ _ _ (fun k_ => some k_ ≠ (.slice Ao3 y3.length co3 : Value).ownBlock) (fun _ => False) rfl rfl ?aO ?aR (fun _ _ h => h) (fun _ h => h.elim) ?aF ?aB ?aS ?aL ?_; (case aR => exact (Kd.R_reads' HO3.out).2.2); (case aB => exact (by repeat (first | (with_reducible first | exact HB.out | apply below_alloc | apply pw_below_drewN | apply below_drew1) | exact HB.out))); (case aF => exact (fun k_ hk => Kd.fresh' (Kd.R_lt HO3.out) k_ hk)); (case aO => exact Kd.R_mono HO2.out (fun _ hk => hk.2)); (case aS => exact (below_size (by repeat (first | (with_reducible first | exact HB.out | apply below_alloc | apply pw_below_drewN | apply below_drew1) | exact HB.out)))); (case aL => have := L3.out; omega); intro v4 w4 ho hb hg hat; rw [← Y4.out] at ho; have n1_ := Aside0.mk hb; have n2_ := Aside0.mk ho; clear HO3 HB HO2; have HB := n1_; have HO4 := n2_; clear n1_ n2_; clear ho hb hg hat; have ho4 := row_some HO4.out (by rintro rfl; have h9 := (Kd.R_reads' HO4.out).1; have := L4.out; omega); obtain ⟨g4, c4, hv4, _⟩ := ho4; subst hv4; have hcp4 := (Kd.R_reads' HO4.out).2.1; have hst4 := slice_to g4 0 y4.length c4 (l0.length : Int) l0.length rfl (by have := L4.out; omega)))
  go_ret
  refine ⟨_, rfl, ⟨?_⟩, HB⟩
  have h1 := Kd.R_mono HO4.out (ok' := fun _ => True) (fun _ _ => trivial)
  rw [L4.out, Y4.out, Y3.out] at h1
  exact ⟨g4, c4, rfl, h1⟩

set_option maxHeartbeats 2000000 in
set_option maxRecDepth 100000 in
theorem stays_any (w : World) (base : Nat) (v : Value) (l : List Int) (A1 : Option Addr) (c1 : Nat) (hv : LentAs w base l v) (hr1 : Kd.C (Kd.int .u8) w A1 l.length l) (hc1 : l.length ≤ c1) (hl : l.length ≤ 140737488351232) :
    Calls Try.prog 17 #[v, .slice A1 l.length c1] w fun e w' => e = .returned (.bool true) ∧ Drawn0 w w' := by
  obtain ⟨g, c, rfl, hc2, _, hC2, hC⟩ := hv.reads
  obtain ⟨m, hm⟩ : ∃ m, m = l.length + 2 := ⟨_, rfl⟩
  obtain ⟨m1, hm1⟩ : ∃ m, m = l.length + 1 := ⟨_, rfl⟩
  rw [← hm] at hc2 hC2
  have HR1 := Aside0.mk hr1
  have HC2 := Aside0.mk hC2
  have HC := Aside0.mk hC
  have hw2 : (IntKind.i64.wrap ((l.length : Int) + 2)) = (m : Int) := (i64_w _).trans (by unfold wrap64; omega)
  have hw1 : (IntKind.i64.wrap ((l.length : Int) + 1)) = (m1 : Int) := (i64_w _).trans (by unfold wrap64; omega)
  have hst1 := slice_to g 0 l.length c (m : Int) m rfl hc2
  have hst2 := slice_to g 0 m c (l.length : Int) l.length rfl (by omega)
  have hcv1 := fun m : Nat => Kd.C_string (P := Try.prog) (A := some ⟨g, 0, none⟩) (c := c) Try.underlying22 Try.underlying5 Try.underlying9 (Kd.C_drewN HC.out m)
  have hcv2 := fun m : Nat => Kd.C_string (P := Try.prog) (A := A1) (c := c1) Try.underlying22 Try.underlying5 Try.underlying9 (Kd.C_drewN HR1.out m)
  obtain ⟨ad1, e1, hx1⟩ := Kd.at_int HC2.out (l.length : Int) (by omega) (by omega)
  obtain ⟨ad2, e2, hx2⟩ := Kd.at_int HC2.out (m1 : Int) (by omega) (by omega)
  cases e1
  cases e2
  have f1 : rd (l ++ [55, 56]) (l.length : Int) = 55 := by unfold rd; rw [Int.toNat_natCast, List.getD_eq_getElem?_getD, List.getElem?_append_right (Nat.le_refl _)]; simp
  have f2 : rd (l ++ [55, 56]) (m1 : Int) = 56 := by unfold rd; rw [Int.toNat_natCast, hm1, List.getD_eq_getElem?_getD, List.getElem?_append_right (by omega)]; simp
  rw [f1] at hx1
  rw [f2] at hx2
  rw [Int.toNat_natCast, add_plain] at hx1 hx2
  have q1 : (l.length : Int) < (m : Int) := by omega
  have q1' : l.length < m := by omega
  have q2 : (m1 : Int) < (m : Int) := by omega
  have q2' : m1 < m := by omega
  have q3 : (0 : Int) ≤ (m1 : Int) := by omega
  have q4 : (0 : Int) ≤ ((l.length : Nat) : Int) := by omega
  clear hm hm1 hc2 hc1 hl
  clear hr1 hC2 hC hv f1 f2
  go_enter Try.func17, Try.ntmps17
  go_wp2
  go_quiet (fail)
  go_wp2
  go_ret
  exact ⟨by first | rfl | simp, by repeat (first | exact Drawn0.refl _ | apply Drawn0.step)⟩

end Go.Proofs.Ytbffeibcndbmgaa.Pg

/-! ## StepsWalk -/
set_option linter.unusedVariables false
set_option linter.unusedSimpArgs false
namespace Go.Proofs.Ytbffeibcndbmgaa.Pg
open Go.RowKit Go.Proofs.YtbffeibcndbmgaaW.PrintWords Go.Proofs.YtbffeibcndbmgaaW.PrintLast Go.Proofs.YtbffeibcndbmgaaW.PrintMore Go.Proofs.Ytbffeibcndbmgaa.PPageSteps

theorem lent_C {w : World} {base : Nat} {l : List Int} {A : Option Addr} {n c : Nat} (h : LentAs w base l (.slice A n c)) : n = l.length ∧ l.length ≤ c ∧ Kd.C (Kd.int .u8) w A l.length l := by
  obtain ⟨g, c', hv, h2, _, _, hC⟩ := h.reads
  injection hv with h1 h3 h4
  subst h1 h3 h4
  exact ⟨rfl, by omega, hC⟩
theorem lent_slice {w : World} {base : Nat} {l : List Int} {v : Value} (h : LentAs w base l v) : ∃ A c, v = .slice A l.length c := by
  obtain ⟨g, c', hv, _⟩ := h
  exact ⟨_, _, hv⟩
theorem V_of_C {w : World} {A : Option Addr} {c : Nat} {l : List Int} (hc : l.length ≤ c) (h : Kd.C (Kd.int .u8) w A l.length l) : Kd.V (Kd.int .u8) 5 w w.heap.size (fun k_ => k_ < w.heap.size) (.slice A l.length c) l := Kd.V_mk hc (Kd.C_F (Kd.heap_int _) h)

theorem s_insert {p r x : List Int} {n e : Int} (h : insertL p r = (x, n, e)) (w : World) (A : Option Addr) (c : Nat) (A1 : Option Addr) (c1 : Nat) (hp : Kd.C (Kd.int .u8) w A p.length p) (hc : p.length ≤ c) (hby : Bytes p) (hr : Kd.C (Kd.int .u8) w A1 r.length r) (hc1 : r.length ≤ c1) (hbr : Bytes r) (hl : r.length ≤ 140737488351232) :
    Calls Try.prog 19 #[.slice A p.length c, .slice A1 r.length c1] w fun e_ w' => ∃ v, e_ = .returned (.tuple #[v, .int .i64 n, .int .i64 e]) ∧ Aside0 (Kd.R (Kd.int .u8) 5 w' w.heap.size (fun _ => True) v x) ∧ Aside0 (Below w.heap.size w w') := by
  refine (insert_any w A p.length c p A1 c1 r hp hc hby hr hc1 hbr hl).mono ?_
  rintro e_ w' ⟨⟨h1⟩, h2⟩
  rw [h] at h1
  obtain ⟨v, he, hR⟩ := h1
  exact ⟨v, he, ⟨hR⟩, h2⟩
theorem r_insert {p r x : List Int} {n e : Int} (h : insertL p r = (x, n, e)) (w : World) (A : Option Addr) (c : Nat) (A1 : Option Addr) (c1 : Nat) (hp : Kd.C (Kd.int .u8) w A p.length p) (hc : p.length ≤ c) (hby : Bytes p) (hr : Kd.C (Kd.int .u8) w A1 r.length r) (hc1 : r.length ≤ c1) (hbr : Bytes r) :
    Calls Try.prog 20 #[.slice A p.length c, .slice A1 r.length c1] w fun e_ w' => ∃ v, e_ = .returned (.tuple #[v, .int .i64 n, .int .i64 e]) ∧ Aside0 (Kd.R (Kd.int .u8) 5 w' w.heap.size (fun _ => True) v x) ∧ Aside0 (Below w.heap.size w w') := by
  obtain ⟨k, hk⟩ := insert_ref p r hby hbr
  rw [h] at hk
  refine (GRef.longstopref12_Insert.calls k A c p _ A1 c1 r x n e w hp hc (V_of_C hc1 hr) hk).mono ?_
  rintro e_ w' ⟨v, he, hR, hB⟩
  exact ⟨v, he, ⟨Kd.R_mono hR (fun _ _ => trivial)⟩, ⟨hB⟩⟩
theorem s_update {p r x : List Int} {i e : Int} (h : updateL p i r = (x, e)) (w : World) (A : Option Addr) (c : Nat) (A1 : Option Addr) (c1 : Nat) (hp : Kd.C (Kd.int .u8) w A p.length p) (hc : p.length ≤ c) (hby : Bytes p) (hr : Kd.C (Kd.int .u8) w A1 r.length r) (hc1 : r.length ≤ c1) (hbr : Bytes r) (hl : r.length ≤ 140737488351232) :
    Calls Try.prog 21 #[.slice A p.length c, .int .i64 i, .slice A1 r.length c1] w fun e_ w' => ∃ v, e_ = .returned (.tuple #[v, .int .i64 e]) ∧ Aside0 (Kd.R (Kd.int .u8) 5 w' w.heap.size (fun _ => True) v x) ∧ Aside0 (Below w.heap.size w w') := by
  refine (update_any w A p.length c p i A1 c1 r hp hc hby hr hc1 hbr hl).mono ?_
  rintro e_ w' ⟨⟨h1⟩, h2⟩
  rw [h] at h1
  obtain ⟨v, he, hR⟩ := h1
  exact ⟨v, he, ⟨hR⟩, h2⟩
theorem r_update {p r x : List Int} {i e : Int} (h : updateL p i r = (x, e)) (w : World) (A : Option Addr) (c : Nat) (A1 : Option Addr) (c1 : Nat) (hp : Kd.C (Kd.int .u8) w A p.length p) (hc : p.length ≤ c) (hby : Bytes p) (hr : Kd.C (Kd.int .u8) w A1 r.length r) (hc1 : r.length ≤ c1) (hbr : Bytes r) :
    Calls Try.prog 22 #[.slice A p.length c, .int .i64 i, .slice A1 r.length c1] w fun e_ w' => ∃ v, e_ = .returned (.tuple #[v, .int .i64 e]) ∧ Aside0 (Kd.R (Kd.int .u8) 5 w' w.heap.size (fun _ => True) v x) ∧ Aside0 (Below w.heap.size w w') := by
  obtain ⟨k, hk⟩ := update_ref p i r hby hbr
  rw [h] at hk
  refine (GRef.longstopref12_Update.calls k A c p i _ A1 c1 r x e w hp hc (V_of_C hc1 hr) hk).mono ?_
  rintro e_ w' ⟨v, he, hR, hB⟩
  exact ⟨v, he, ⟨Kd.R_mono hR (fun _ _ => trivial)⟩, ⟨hB⟩⟩
theorem s_delete {p x : List Int} {i e : Int} (h : deleteL p i = (x, e)) (w : World) (A : Option Addr) (c : Nat) (hp : Kd.C (Kd.int .u8) w A p.length p) (hc : p.length ≤ c) (hby : Bytes p) :
    Calls Try.prog 23 #[.slice A p.length c, .int .i64 i] w fun e_ w' => ∃ v, e_ = .returned (.tuple #[v, .int .i64 e]) ∧ Aside0 (Kd.R (Kd.int .u8) 5 w' w.heap.size (fun _ => True) v x) ∧ Aside0 (Below w.heap.size w w') := by
  refine (delete_any w A p.length c p i hp hc hby).mono ?_
  rintro e_ w' ⟨⟨h1⟩, h2⟩
  rw [h] at h1
  obtain ⟨v, he, hR⟩ := h1
  exact ⟨v, he, ⟨hR⟩, h2⟩
theorem r_delete {p x : List Int} {i e : Int} (h : deleteL p i = (x, e)) (w : World) (A : Option Addr) (c : Nat) (hp : Kd.C (Kd.int .u8) w A p.length p) (hc : p.length ≤ c) (hby : Bytes p) :
    Calls Try.prog 24 #[.slice A p.length c, .int .i64 i] w fun e_ w' => ∃ v, e_ = .returned (.tuple #[v, .int .i64 e]) ∧ Aside0 (Kd.R (Kd.int .u8) 5 w' w.heap.size (fun _ => True) v x) ∧ Aside0 (Below w.heap.size w w') := by
  have hk := delete_ref p i hby
  rw [h] at hk
  refine (GRef.longstopref12_Delete.calls A c p i x e w hp hc hk).mono ?_
  rintro e_ w' ⟨v, he, hR, hB⟩
  exact ⟨v, he, ⟨hR⟩, ⟨hB⟩⟩

set_option maxHeartbeats 8000000 in
set_option maxRecDepth 100000 in
theorem steps_any (w : World) (A0 : Option Addr) (c0 : Nat) (p : List Int) (A1 : Option Addr) (c1 : Nat) (r : List Int) (i : Int) (hp : Kd.C (Kd.int .u8) w A0 p.length p) (hc0 : p.length ≤ c0) (hr : Kd.C (Kd.int .u8) w A1 r.length r) (hc1 : r.length ≤ c1) (hbp : Bytes p) (hbr : Bytes r) (hlp : p.length ≤ 140737488351232) (hlr : r.length ≤ 140737488351232) (hi : (Lit.int .i64 i).wf = true) :
    Calls Try.prog 4 #[.slice A0 p.length c0, .slice A1 r.length c1, .int .i64 i] w fun e w' => e = .returned (.bool true) ∧ Below w.heap.size w w' := by
  obtain ⟨⟨xi, ni, ei⟩, hins⟩ : ∃ o, insertL p r = o := ⟨_, rfl⟩
  obtain ⟨⟨xu, eu⟩, hupd⟩ : ∃ o, updateL p i r = o := ⟨_, rfl⟩
  obtain ⟨⟨xd, ed⟩, hdel⟩ : ∃ o, deleteL p i = o := ⟨_, rfl⟩
  have HP := Aside0.mk hp
  have HR := Aside0.mk hr
  have HI := Aside0.mk hins
  have HU := Aside0.mk hupd
  have HD := Aside0.mk hdel
  have HBP := Aside0.mk hbp
  have HBR := Aside0.mk hbr
  have HB := Aside0.mk (Below.refl w.heap.size w)
  clear hp hr hins hupd hdel hbp hbr
  go_enter Try.func4, Try.ntmps4
  go_wp2_with (first
    | ((with_reducible refine gate_dst (N := 24) rfl ?_); refine goesL_ (some 24) rfl rfl Try.func6 (by kernel_rfl) rfl #[.slice A0 p.length c0] rfl (by (try simp only [List.map_toArray, List.map_cons, List.map_nil]); first | done | rfl) ?_; (with_reducible refine (lent_any _ A0 c0 p (Kd.C_below HP.out HB.out) hc0 hlp).mono ?_); rintro e_ w1 ⟨v1, rfl, HL1, HB1⟩; refine ⟨_, rfl, ?_⟩; have n0_ := Aside0.mk (below_step HB.out HB1.out); clear HB; have HB := n0_; clear n0_; obtain ⟨B1, d1, hv1⟩ := lent_slice HL1.out; subst hv1; have e1 := (lent_C HL1.out).2.1)
    | ((with_reducible refine gate_dst (N := 26) rfl ?_); refine goesL_ (some 26) rfl rfl Try.func6 (by kernel_rfl) rfl #[.slice A1 r.length c1] rfl (by (try simp only [List.map_toArray, List.map_cons, List.map_nil]); first | done | rfl) ?_; (with_reducible refine (lent_any _ A1 c1 r (Kd.C_below HR.out HB.out) hc1 hlr).mono ?_); rintro e_ w2 ⟨v2, rfl, HL2, HB2⟩; refine ⟨_, rfl, ?_⟩; have m0_ := Aside0.mk (LentAs.below HL1.out HB2.out); have n0_ := Aside0.mk (below_step HB.out HB2.out); clear HB; have HB := n0_; clear n0_; clear HL1; have HL1 := m0_; clear m0_; obtain ⟨B2, d2, hv2⟩ := lent_slice HL2.out; subst hv2; have e2 := (lent_C HL2.out).2.1)
    | ((with_reducible refine gate_dst (N := 30) rfl ?_); refine goesL_ (some 30) rfl rfl Try.func19 (by kernel_rfl) rfl #[.slice B1 p.length d1, .slice B2 r.length d2] rfl (by (try simp only [List.map_toArray, List.map_cons, List.map_nil]); first | done | rfl) ?_; (with_reducible refine (s_insert HI.out _ B1 d1 B2 d2 (lent_C HL1.out).2.2 e1 HBP.out (lent_C HL2.out).2.2 e2 HBR.out hlr).mono ?_); rintro e_ w3 ⟨v3, rfl, HO3, HB3⟩; refine ⟨_, rfl, ?_⟩; have m0_ := Aside0.mk (LentAs.below HL1.out HB3.out); have m1_ := Aside0.mk (LentAs.below HL2.out HB3.out); have n0_ := Aside0.mk (below_step HB.out HB3.out); clear HB; have HB := n0_; clear n0_; clear HL1; have HL1 := m0_; clear m0_; clear HL2; have HL2 := m1_; clear m1_; obtain ⟨A3, c3, hv3⟩ := Kd.R_slice HO3.out; subst hv3)
    | ((with_reducible refine gate_dst (N := 37) rfl ?_); refine goesL_ (some 37) rfl rfl Try.func20 (by kernel_rfl) rfl #[.slice A0 p.length c0, .slice A1 r.length c1] rfl (by (try simp only [List.map_toArray, List.map_cons, List.map_nil]); first | done | rfl) ?_; (with_reducible refine (r_insert HI.out _ A0 c0 A1 c1 (Kd.C_below HP.out HB.out) hc0 HBP.out (Kd.C_below HR.out HB.out) hc1 HBR.out).mono ?_); rintro e_ w4 ⟨v4, rfl, HO4, HB4⟩; refine ⟨_, rfl, ?_⟩; have m0_ := Aside0.mk (LentAs.below HL1.out HB4.out); have m1_ := Aside0.mk (LentAs.below HL2.out HB4.out); have m2_ := Aside0.mk (Kd.R_below HO3.out HB4.out); have n0_ := Aside0.mk (below_step HB.out HB4.out); clear HB; have HB := n0_; clear n0_; clear HL1; have HL1 := m0_; clear m0_; clear HL2; have HL2 := m1_; clear m1_; clear HO3; have HO3 := m2_; clear m2_; obtain ⟨A4, c4, hv4⟩ := Kd.R_slice HO4.out; subst hv4)
    | ((with_reducible refine gate_dst (N := 45) rfl ?_); refine goesL_ (some 45) rfl rfl Try.func21 (by kernel_rfl) rfl #[.slice B1 p.length d1, .int .i64 i, .slice B2 r.length d2] rfl (by (try simp only [List.map_toArray, List.map_cons, List.map_nil]); first | done | rfl) ?_; (with_reducible refine (s_update HU.out _ B1 d1 B2 d2 (lent_C HL1.out).2.2 e1 HBP.out (lent_C HL2.out).2.2 e2 HBR.out hlr).mono ?_); rintro e_ w5 ⟨v5, rfl, HO5, HB5⟩; refine ⟨_, rfl, ?_⟩; have m0_ := Aside0.mk (LentAs.below HL1.out HB5.out); have m1_ := Aside0.mk (LentAs.below HL2.out HB5.out); have m2_ := Aside0.mk (Kd.R_below HO3.out HB5.out); have m3_ := Aside0.mk (Kd.R_below HO4.out HB5.out); have n0_ := Aside0.mk (below_step HB.out HB5.out); clear HB; have HB := n0_; clear n0_; clear HL1; have HL1 := m0_; clear m0_; clear HL2; have HL2 := m1_; clear m1_; clear HO3; have HO3 := m2_; clear m2_; clear HO4; have HO4 := m3_; clear m3_; obtain ⟨A5, c5, hv5⟩ := Kd.R_slice HO5.out; subst hv5)
    | ((with_reducible refine gate_dst (N := 52) rfl ?_); refine goesL_ (some 52) rfl rfl Try.func22 (by kernel_rfl) rfl #[.slice A0 p.length c0, .int .i64 i, .slice A1 r.length c1] rfl (by (try simp only [List.map_toArray, List.map_cons, List.map_nil]); first | done | rfl) ?_; (with_reducible refine (r_update HU.out _ A0 c0 A1 c1 (Kd.C_below HP.out HB.out) hc0 HBP.out (Kd.C_below HR.out HB.out) hc1 HBR.out).mono ?_); rintro e_ w6 ⟨v6, rfl, HO6, HB6⟩; refine ⟨_, rfl, ?_⟩; have m0_ := Aside0.mk (LentAs.below HL1.out HB6.out); have m1_ := Aside0.mk (LentAs.below HL2.out HB6.out); have m2_ := Aside0.mk (Kd.R_below HO3.out HB6.out); have m3_ := Aside0.mk (Kd.R_below HO4.out HB6.out); have m4_ := Aside0.mk (Kd.R_below HO5.out HB6.out); have n0_ := Aside0.mk (below_step HB.out HB6.out); clear HB; have HB := n0_; clear n0_; clear HL1; have HL1 := m0_; clear m0_; clear HL2; have HL2 := m1_; clear m1_; clear HO3; have HO3 := m2_; clear m2_; clear HO4; have HO4 := m3_; clear m3_; clear HO5; have HO5 := m4_; clear m4_; obtain ⟨A6, c6, hv6⟩ := Kd.R_slice HO6.out; subst hv6)
    | ((with_reducible refine gate_dst (N := 58) rfl ?_); refine goesL_ (some 58) rfl rfl Try.func23 (by kernel_rfl) rfl #[.slice B1 p.length d1, .int .i64 i] rfl (by (try simp only [List.map_toArray, List.map_cons, List.map_nil]); first | done | rfl) ?_; (with_reducible refine (s_delete HD.out _ B1 d1 (lent_C HL1.out).2.2 e1 HBP.out).mono ?_); rintro e_ w7 ⟨v7, rfl, HO7, HB7⟩; refine ⟨_, rfl, ?_⟩; have m0_ := Aside0.mk (LentAs.below HL1.out HB7.out); have m1_ := Aside0.mk (LentAs.below HL2.out HB7.out); have m2_ := Aside0.mk (Kd.R_below HO3.out HB7.out); have m3_ := Aside0.mk (Kd.R_below HO4.out HB7.out); have m4_ := Aside0.mk (Kd.R_below HO5.out HB7.out); have m5_ := Aside0.mk (Kd.R_below HO6.out HB7.out); have n0_ := Aside0.mk (below_step HB.out HB7.out); clear HB; have HB := n0_; clear n0_; clear HL1; have HL1 := m0_; clear m0_; clear HL2; have HL2 := m1_; clear m1_; clear HO3; have HO3 := m2_; clear m2_; clear HO4; have HO4 := m3_; clear m3_; clear HO5; have HO5 := m4_; clear m4_; clear HO6; have HO6 := m5_; clear m5_; obtain ⟨A7, c7, hv7⟩ := Kd.R_slice HO7.out; subst hv7)
    | ((with_reducible refine gate_dst (N := 64) rfl ?_); refine goesL_ (some 64) rfl rfl Try.func24 (by kernel_rfl) rfl #[.slice A0 p.length c0, .int .i64 i] rfl (by (try simp only [List.map_toArray, List.map_cons, List.map_nil]); first | done | rfl) ?_; (with_reducible refine (r_delete HD.out _ A0 c0 (Kd.C_below HP.out HB.out) hc0 HBP.out).mono ?_); rintro e_ w8 ⟨v8, rfl, HO8, HB8⟩; refine ⟨_, rfl, ?_⟩; have m0_ := Aside0.mk (LentAs.below HL1.out HB8.out); have m1_ := Aside0.mk (LentAs.below HL2.out HB8.out); have m2_ := Aside0.mk (Kd.R_below HO3.out HB8.out); have m3_ := Aside0.mk (Kd.R_below HO4.out HB8.out); have m4_ := Aside0.mk (Kd.R_below HO5.out HB8.out); have m5_ := Aside0.mk (Kd.R_below HO6.out HB8.out); have m6_ := Aside0.mk (Kd.R_below HO7.out HB8.out); have n0_ := Aside0.mk (below_step HB.out HB8.out); clear HB; have HB := n0_; clear n0_; clear HL1; have HL1 := m0_; clear m0_; clear HL2; have HL2 := m1_; clear m1_; clear HO3; have HO3 := m2_; clear m2_; clear HO4; have HO4 := m3_; clear m3_; clear HO5; have HO5 := m4_; clear m4_; clear HO6; have HO6 := m5_; clear m5_; clear HO7; have HO7 := m6_; clear m6_; obtain ⟨A8, c8, hv8⟩ := Kd.R_slice HO8.out; subst hv8; have hcv3 := own_string (P := Try.prog) Try.underlying22 Try.underlying5 Try.underlying9 (Kd.own_of_R HO3.out); have hcv4 := own_string (P := Try.prog) Try.underlying22 Try.underlying5 Try.underlying9 (Kd.own_of_R HO4.out); have hcv5 := own_string (P := Try.prog) Try.underlying22 Try.underlying5 Try.underlying9 (Kd.own_of_R HO5.out); have hcv6 := own_string (P := Try.prog) Try.underlying22 Try.underlying5 Try.underlying9 (Kd.own_of_R HO6.out); have hcv7 := own_string (P := Try.prog) Try.underlying22 Try.underlying5 Try.underlying9 (Kd.own_of_R HO7.out); have hcv8 := own_string (P := Try.prog) Try.underlying22 Try.underlying5 Try.underlying9 (Kd.own_of_R HO8.out); have HBW := HB)
    | (go_at_call 25; refine (num_any _ _).mono ?_; rintro e_ w' ⟨rfl, rfl⟩)
    | (go_at_call 17; (with_reducible refine (stays_any _ _ (.slice B1 p.length d1) p A0 c0 HL1.out (Kd.C_below HP.out HB.out) hc0 hlp).mono ?_); rintro e_ w' ⟨rfl, hd_⟩; obtain ⟨m1, rfl⟩ := hd_.out; have n0_ := Aside0.mk (pw_below_drewN HB.out m1); have n1_ := Aside0.mk (LentAs.drewN HL2.out m1); clear HB HL2; have HB := n0_; have HL2 := n1_; clear n0_ n1_ hd_)
    | (go_at_call 17; (with_reducible refine (stays_any _ _ (.slice B2 r.length d2) r A1 c1 HL2.out (Kd.C_below HR.out HB.out) hc1 hlr).mono ?_); rintro e_ w' ⟨rfl, hd_⟩; obtain ⟨m2, rfl⟩ := hd_.out; have n0_ := Aside0.mk (pw_below_drewN HB.out m2); have n1_ := Aside0.mk (LentAs.drewN HL2.out m2); clear HB HL2; have HB := n0_; have HL2 := n1_; clear n0_ n1_ hd_)
    | (go_at_call 18; refine (knows_any _).mono ?_; rintro e_ w9 ⟨rfl, HB9⟩; have n0_ := Aside0.mk (below_step (pw_below_drewN HBW.out (m1 + m2)) HB9.out); clear HB; have HB := n0_; clear n0_))
  go_ret
  exact ⟨rfl, HB.out⟩

end Go.Proofs.Ytbffeibcndbmgaa.Pg

/-! ## StepsRow -/
set_option linter.unusedVariables false
namespace Go.Proofs.Ytbffeibcndbmgaa.Pg
open Go.RowKit Go.Proofs.YtbffeibcndbmgaaW.PrintWords Go.Proofs.YtbffeibcndbmgaaW.PrintLast Go.Proofs.YtbffeibcndbmgaaW.PrintMore

theorem bytes_of_wf {l : List Int} (h : ∀ n ∈ l, (Lit.int .u8 n).wf = true) : Bytes l := by
  intro x hx
  have h1 := (Lit.wf_int_iff .u8 x).1 (h x hx)
  have h2 : IntKind.min .u8 = 0 := rfl
  have h3 : IntKind.max .u8 = 255 := by decide
  rw [h2, h3] at h1
  omega

theorem steps_row (a0 : Option Addr) (len0 cap0 : Nat) (z0 : List Int) (a1 : Option Addr) (len1 cap1 : Nat) (z1 : List Int) (a2 : Int) (w : World) (w0 : (a0 = none ∧ len0 = 0 ∧ cap0 = 0 ∧ z0 = []) ∨ ∃ x, a0 = some x ∧ len0 ≤ cap0 ∧ cap0 ≤ maxLen ∧ z0.length = cap0 ∧ (∀ i, i < z0.length → w.cell? (x.add i) = some (.int .u8 (z0.getD i 0))) ∧ ∀ n ∈ z0, (Lit.int .u8 n).wf = true) (y0 : len0 * 1 ≤ 140737488351232) (w1 : (a1 = none ∧ len1 = 0 ∧ cap1 = 0 ∧ z1 = []) ∨ ∃ x, a1 = some x ∧ len1 ≤ cap1 ∧ cap1 ≤ maxLen ∧ z1.length = cap1 ∧ (∀ i, i < z1.length → w.cell? (x.add i) = some (.int .u8 (z1.getD i 0))) ∧ ∀ n ∈ z1, (Lit.int .u8 n).wf = true) (y1 : len1 * 1 ≤ 140737488351232) (w2 : (Lit.int .i64 a2).wf = true) :
    Calls Try.prog 4 #[.slice a0 len0 cap0, .slice a1 len1 cap1, .int .i64 a2] w fun e w' => e = .returned (.bool true) ∧ Below w.heap.size w w' := by
  obtain ⟨l0, rfl, hr0, hm0, hw0, hc0⟩ := ReadsInt.ofRowC w0
  obtain ⟨l1, rfl, hr1, hm1, hw1, hc1⟩ := ReadsInt.ofRowC w1
  exact steps_any w a0 cap0 l0 a1 cap1 l1 a2 (Kd.C_of_reads (d := (0 : Int)) (h1 := fun _ => rfl) hr0) hc0 (Kd.C_of_reads (d := (0 : Int)) (h1 := fun _ => rfl) hr1) hc1 (bytes_of_wf hw0) (bytes_of_wf hw1) (by omega) (by omega) w2

end Go.Proofs.Ytbffeibcndbmgaa.Pg
