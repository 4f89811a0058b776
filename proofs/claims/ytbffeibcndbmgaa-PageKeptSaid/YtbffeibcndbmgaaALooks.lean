/- A part of the proofs about pages: what this claim needs beyond the parts that the seat's claims share; its conditions stand in each lemma. -/
import Derived.Test.YtbffeibcndbmgaaA3
import Derived.Deep.RegionWith
set_option linter.unusedVariables false
set_option linter.unusedSimpArgs false

/-! ## LooksWalk -/
set_option linter.unusedVariables false
set_option linter.unusedSimpArgs false
namespace Go.Proofs.Ytbffeibcndbmgaa.Pg
open Go.RowKit Go.Proofs.YtbffeibcndbmgaaW.PrintWords Go.Proofs.YtbffeibcndbmgaaW.PrintLast Go.Proofs.YtbffeibcndbmgaaW.PrintMore Go.Proofs.Ytbffeibcndbmgaa.PPageSteps

theorem lent_drew {w : World} {base : Nat} {l : List Int} {v : Value} (h : LentAs w base l v) : LentAs w.drew base l v := by
  obtain ⟨g, c, hv, hR⟩ := h
  exact ⟨g, c, hv, Kd.R_drew hR⟩
theorem s_get {p x : List Int} {i : Int} {ok : Bool} (h1 : (getL p i).getD [] = x) (h2 : (getL p i).isSome = ok) (w : World) (A : Option Addr) (c : Nat) (hp : Kd.C (Kd.int .u8) w A p.length p) (hc : p.length ≤ c) (hby : Bytes p) :
    Calls Try.prog 7 #[.slice A p.length c, .int .i64 i] w fun e_ w' => ∃ v, e_ = .returned (.tuple #[v, .bool ok]) ∧ Aside0 (Kd.R (Kd.int .u8) 5 w' w.heap.size (fun _ => True) v x) ∧ Aside0 (Below w.heap.size w w') := by
  refine (get_any w A p.length c p i hp hc hby).mono ?_
  rintro e_ w' ⟨⟨h3⟩, h4⟩
  subst h1 h2
  unfold GetPost at h3
  cases h : getL p i with
  | none =>
    rw [h] at h3
    exact ⟨_, h3, ⟨Kd.R_nil _ _ _ _ _⟩, h4⟩
  | some r =>
    rw [h] at h3
    obtain ⟨v, he, hR⟩ := h3
    exact ⟨v, he, ⟨hR⟩, h4⟩
theorem r_get {p x : List Int} {i : Int} {ok : Bool} (h1 : (getL p i).getD [] = x) (h2 : (getL p i).isSome = ok) (w : World) (A : Option Addr) (c : Nat) (hp : Kd.C (Kd.int .u8) w A p.length p) (hc : p.length ≤ c) (hby : Bytes p) :
    Calls Try.prog 8 #[.slice A p.length c, .int .i64 i] w fun e_ w' => ∃ v, e_ = .returned (.tuple #[v, .bool ok]) ∧ Aside0 (Kd.R (Kd.int .u8) 5 w' w.heap.size (fun _ => True) v x) ∧ Aside0 (Below w.heap.size w w') := by
  have hk := get_ref p hby i
  rw [h1, h2] at hk
  refine (GRef.longstopref12_Get.calls A c p i x ok w hp hc hk).mono ?_
  rintro e_ w' ⟨v, he, hR, hB⟩
  exact ⟨v, he, ⟨hR⟩, ⟨hB⟩⟩
theorem s_right {p : List Int} {x : Bool} (h : rightL p = x) (w : World) (A : Option Addr) (c : Nat) (hp : Kd.C (Kd.int .u8) w A p.length p) (hc : p.length ≤ c) (hby : Bytes p) :
    Calls Try.prog 9 #[.slice A p.length c] w fun e_ w' => e_ = .returned (.bool x) ∧ Aside0 (Below w.heap.size w w') := by
  have h1 := right_any w A p.length c p hp hc hby
  rw [h] at h1
  exact h1
theorem r_right {p : List Int} {x : Bool} (h : rightL p = x) (w : World) (A : Option Addr) (c : Nat) (hp : Kd.C (Kd.int .u8) w A p.length p) (hc : p.length ≤ c) (hby : Bytes p) :
    Calls Try.prog 10 #[.slice A p.length c] w fun e_ w' => e_ = .returned (.bool x) ∧ Aside0 (Below w.heap.size w w') := by
  have hk := right_ref p hby
  rw [h] at hk
  exact (GRef.longstopref12_Right.calls A c p x w hp hc hk).mono fun e_ w' h => ⟨h.1, ⟨h.2⟩⟩
theorem s_slots {p : List Int} {x : Int} (h : slotsL p = x) (w : World) (A : Option Addr) (c : Nat) (hp : Kd.C (Kd.int .u8) w A p.length p) (hc : p.length ≤ c) (hby : Bytes p) :
    Calls Try.prog 11 #[.slice A p.length c] w fun e_ w' => e_ = .returned (.int .i64 x) ∧ Aside0 (Below w.heap.size w w') := by
  have h1 := slots_any w A p.length c p hp hc hby
  rw [h] at h1
  exact h1
theorem r_slots {p : List Int} {x : Int} (h : slotsL p = x) (w : World) (A : Option Addr) (c : Nat) (hp : Kd.C (Kd.int .u8) w A p.length p) (hc : p.length ≤ c) (hby : Bytes p) :
    Calls Try.prog 12 #[.slice A p.length c] w fun e_ w' => e_ = .returned (.int .i64 x) ∧ Aside0 (Below w.heap.size w w') := by
  have hk := slots_ref p hby
  rw [h] at hk
  exact (GRef.longstopref12_Slots.calls A c p x w hp hc hk).mono fun e_ w' h => ⟨h.1, ⟨h.2⟩⟩
theorem s_room {p : List Int} {x : Int} (h : roomP p = x) (w : World) (A : Option Addr) (c : Nat) (hp : Kd.C (Kd.int .u8) w A p.length p) (hc : p.length ≤ c) (hby : Bytes p) :
    Calls Try.prog 13 #[.slice A p.length c] w fun e_ w' => e_ = .returned (.int .i64 x) ∧ Aside0 (Below w.heap.size w w') := by
  have h1 := room_page w A p.length c p hp hc hby
  rw [h] at h1
  exact h1
theorem r_room {p : List Int} {x : Int} (h : roomP p = x) (w : World) (A : Option Addr) (c : Nat) (hp : Kd.C (Kd.int .u8) w A p.length p) (hc : p.length ≤ c) (hby : Bytes p) :
    Calls Try.prog 14 #[.slice A p.length c] w fun e_ w' => e_ = .returned (.int .i64 x) ∧ Aside0 (Below w.heap.size w w') := by
  obtain ⟨k, hk⟩ := room_ref p hby
  rw [h] at hk
  exact (GRef.longstopref12_Room.calls k A c p x w hp hc hk).mono fun e_ w' h => ⟨h.1, ⟨h.2⟩⟩
theorem s_new {x : List Int} (h : pageL [] = x) (w : World) : Calls Try.prog 15 #[] w fun e w' => ∃ v, e = .returned v ∧ Aside0 (Kd.R (Kd.int .u8) 5 w' w.heap.size (fun _ => True) v x) ∧ Aside0 (Below w.heap.size w w') := by
  have h1 := new_any w
  rw [h] at h1
  exact h1
theorem r_new {x : List Int} (h : pageL [] = x) (w : World) : Calls Try.prog 16 #[] w fun e w' => ∃ v, e = .returned v ∧ Aside0 (Kd.R (Kd.int .u8) 5 w' w.heap.size (fun _ => True) v x) ∧ Aside0 (Below w.heap.size w w') := by
  have hk := new_ref
  rw [h] at hk
  refine (GRef.longstopref12_New.calls x w hk).mono ?_
  rintro e w' ⟨v, he, hR, hB⟩
  exact ⟨v, he, ⟨hR⟩, ⟨hB⟩⟩

set_option maxHeartbeats 8000000 in
set_option maxRecDepth 100000 in
theorem looks_any (w : World) (A0 : Option Addr) (c0 : Nat) (p : List Int) (i : Int) (hp : Kd.C (Kd.int .u8) w A0 p.length p) (hc0 : p.length ≤ c0) (hbp : Bytes p) (hlp : p.length ≤ 140737488351232) :
    Calls Try.prog 3 #[.slice A0 p.length c0, .int .i64 i] w fun e w' => e = .returned (.bool true) ∧ Below w.heap.size w w' := by
  obtain ⟨xg, hxg⟩ : ∃ x, (getL p i).getD [] = x := ⟨_, rfl⟩
  obtain ⟨og, hog⟩ : ∃ x, (getL p i).isSome = x := ⟨_, rfl⟩
  obtain ⟨xr, hxr⟩ : ∃ x, rightL p = x := ⟨_, rfl⟩
  obtain ⟨xs, hxs⟩ : ∃ x, slotsL p = x := ⟨_, rfl⟩
  obtain ⟨xm, hxm⟩ : ∃ x, roomP p = x := ⟨_, rfl⟩
  obtain ⟨xn, hxn⟩ : ∃ x, pageL [] = x := ⟨_, rfl⟩
  have HP := Aside0.mk hp
  have HG := Aside0.mk hxg
  have HO := Aside0.mk hog
  have HXR := Aside0.mk hxr
  have HXS := Aside0.mk hxs
  have HXM := Aside0.mk hxm
  have HXN := Aside0.mk hxn
  have HBP := Aside0.mk hbp
  have HB := Aside0.mk (Below.refl w.heap.size w)
  clear hp hxg hog hxr hxs hxm hxn hbp
  go_enter Try.func3, Try.ntmps3
  go_wp2_with (first
    | ((with_reducible refine gate_dst (N := 13) rfl ?_); refine goesL_ (some 13) rfl rfl Try.func6 (by kernel_rfl) rfl #[.slice A0 p.length c0] rfl (by (try simp only [List.map_toArray, List.map_cons, List.map_nil]); first | done | rfl) ?_; (with_reducible refine (lent_any _ A0 c0 p HP.out hc0 hlp).mono ?_); rintro e_ w1 ⟨v1, rfl, HL1, HB1⟩; refine ⟨_, rfl, ?_⟩; obtain ⟨B1, d1, hv1⟩ := lent_slice HL1.out; subst hv1; have e1 := (lent_C HL1.out).2.1; have HK := Aside0.mk (Below.refl w1.heap.size w1))
    | ((with_reducible refine gate_dst (N := 17) rfl ?_); refine goesL_ (some 17) rfl rfl Try.func7 (by kernel_rfl) rfl #[.slice B1 p.length d1, .int .i64 i] rfl (by (try simp only [List.map_toArray, List.map_cons, List.map_nil]); first | done | rfl) ?_; (with_reducible refine (s_get HG.out HO.out _ B1 d1 (lent_C HL1.out).2.2 e1 HBP.out).mono ?_); rintro e_ w2 ⟨v2, rfl, HO2, HB2⟩; refine ⟨_, rfl, ?_⟩; have n0_ := Aside0.mk (below_step HK.out HB2.out); clear HK; have HK := n0_; clear n0_; obtain ⟨A2, c2, hv2⟩ := Kd.R_slice HO2.out; subst hv2)
    | ((with_reducible refine gate_dst (N := 23) rfl ?_); refine goesL_ (some 23) rfl rfl Try.func8 (by kernel_rfl) rfl #[.slice A0 p.length c0, .int .i64 i] rfl (by (try simp only [List.map_toArray, List.map_cons, List.map_nil]); first | done | rfl) ?_; (with_reducible refine (r_get HG.out HO.out _ A0 c0 (Kd.C_below HP.out (below_step HB1.out HK.out)) hc0 HBP.out).mono ?_); rintro e_ w3 ⟨v3, rfl, HO3, HB3⟩; refine ⟨_, rfl, ?_⟩; have n0_ := Aside0.mk (below_step HK.out HB3.out); have n1_ := Aside0.mk (Kd.R_below HO2.out HB3.out); clear HK HO2; have HK := n0_; have HO2 := n1_; clear n0_ n1_; obtain ⟨A3, c3, hv3⟩ := Kd.R_slice HO3.out; subst hv3; have hcv2 := own_string (P := Try.prog) Try.underlying22 Try.underlying5 Try.underlying9 (Kd.own_of_R HO2.out); have hcv3 := own_string (P := Try.prog) Try.underlying22 Try.underlying5 Try.underlying9 (Kd.own_of_R HO3.out)))
  clear hcv2 hcv3
  have hmx : xg.length ≤ 9223372036854775807 := ((Kd.R_reads' HO2.out).2.2).2.1
  go_loopw [11] (fun v11 wr => ∃ (l' : List Int) (x11 : Int), 0 ≤ x11 ∧ x11 ≤ (xg.length : Int) ∧ v11 = .int .i64 x11 ∧ Aside0 (l'.length = xg.length) ∧ Aside0 (Kd.R (Kd.int .u8) 5 wr w1.heap.size (fun _ => True) (.slice A2 xg.length c2) l') ∧ Aside0 (Below w1.heap.size w1 wr)) (fun v _ => xg.length - (intOf v).toNat)
  case atStart => exact ⟨xg, 0, by omega, by omega, rfl, ⟨rfl⟩, HO2, HK⟩
  case round =>
    clear HO2 HK HO3
    obtain ⟨l', x11, p18, h18, rfl, HLL, HO2, HK⟩ := hrel
    by_cases q18 : x11 < (xg.length : Int)
    · obtain ⟨g, cg, eg, gb, gl, _⟩ := Kd.R_form HO2.out (by have := HLL.out; omega)
      injection eg with ea_ en_ ec_
      subst ea_ ec_
      have GB := Aside0.mk gb
      clear gb gl en_
      obtain ⟨hx18_0, hf18_0⟩ := Kd.R_celln 0 HO2.out x11 p18 q18
      have HP20 := Kd.R_putg HO2.out x11 (((rd l' x11) + 1) % 256)
      go_wp2
      go_roundw
      case rel => exact ⟨l'.set x11.toNat (((rd l' x11) + 1) % 256), x11 + 1, by omega, by omega, rfl, ⟨by rw [List.length_set]; exact HLL.out⟩, ⟨HP20.1⟩, ⟨below_set HK.out GB.out⟩⟩
      case measure => simp [intOf]; omega
    · have HB := Aside0.mk (below_step HB1.out HK.out)
      have HL2 := Aside0.mk (LentAs.below HL1.out HK.out)
      clear HO2 HLL
      go_wp2
      have n0_ := Aside0.mk (below_drew1 HB.out)
      have n1_ := Aside0.mk (lent_drew HL2.out)
      clear HB HL2
      have HB := n0_
      have HL2 := n1_
      clear n0_ n1_
      go_region_with (first
    | (go_at_call 9; (with_reducible refine (s_right HXR.out _ B1 d1 (lent_C HL2.out).2.2 e1 HBP.out).mono ?_); rintro e_ w' ⟨rfl, HBx⟩; have n0_ := Aside0.mk (below_step HB.out HBx.out); have n1_ := Aside0.mk (LentAs.below HL2.out HBx.out); clear HB HL2 HBx; have HB := n0_; have HL2 := n1_; clear n0_ n1_)
    | (go_at_call 10; (with_reducible refine (r_right HXR.out _ A0 c0 (Kd.C_below HP.out HB.out) hc0 HBP.out).mono ?_); rintro e_ w' ⟨rfl, HBx⟩; have n0_ := Aside0.mk (below_step HB.out HBx.out); have n1_ := Aside0.mk (LentAs.below HL2.out HBx.out); clear HB HL2 HBx; have HB := n0_; have HL2 := n1_; clear n0_ n1_)
    | (go_at_call 11; (with_reducible refine (s_slots HXS.out _ B1 d1 (lent_C HL2.out).2.2 e1 HBP.out).mono ?_); rintro e_ w' ⟨rfl, HBx⟩; have n0_ := Aside0.mk (below_step HB.out HBx.out); have n1_ := Aside0.mk (LentAs.below HL2.out HBx.out); clear HB HL2 HBx; have HB := n0_; have HL2 := n1_; clear n0_ n1_)
    | (go_at_call 12; (with_reducible refine (r_slots HXS.out _ A0 c0 (Kd.C_below HP.out HB.out) hc0 HBP.out).mono ?_); rintro e_ w' ⟨rfl, HBx⟩; have n0_ := Aside0.mk (below_step HB.out HBx.out); have n1_ := Aside0.mk (LentAs.below HL2.out HBx.out); clear HB HL2 HBx; have HB := n0_; have HL2 := n1_; clear n0_ n1_)
    | (go_at_call 13; (with_reducible refine (s_room HXM.out _ B1 d1 (lent_C HL2.out).2.2 e1 HBP.out).mono ?_); rintro e_ w' ⟨rfl, HBx⟩; have n0_ := Aside0.mk (below_step HB.out HBx.out); have n1_ := Aside0.mk (LentAs.below HL2.out HBx.out); clear HB HL2 HBx; have HB := n0_; have HL2 := n1_; clear n0_ n1_)
    | (go_at_call 14; (with_reducible refine (r_room HXM.out _ A0 c0 (Kd.C_below HP.out HB.out) hc0 HBP.out).mono ?_); rintro e_ w' ⟨rfl, HBx⟩; have n0_ := Aside0.mk (below_step HB.out HBx.out); have n1_ := Aside0.mk (LentAs.below HL2.out HBx.out); clear HB HL2 HBx; have HB := n0_; have HL2 := n1_; clear n0_ n1_)
    | (go_at_call 15; (with_reducible refine (s_new HXN.out _).mono ?_); rintro e_ w5 ⟨v5, rfl, HN5, HBx⟩; have n0_ := Aside0.mk (below_step HB.out HBx.out); have n1_ := Aside0.mk (LentAs.below HL2.out HBx.out); clear HB HL2 HBx; have HB := n0_; have HL2 := n1_; clear n0_ n1_; obtain ⟨A5, c5, hv5⟩ := Kd.R_slice HN5.out; subst hv5; have hcvN5 := own_string (P := Try.prog) Try.underlying22 Try.underlying5 Try.underlying9 (Kd.own_of_R HN5.out))
    | (go_at_call 16; (with_reducible refine (r_new HXN.out _).mono ?_); rintro e_ w6 ⟨v6, rfl, HN6, HBx⟩; have n0_ := Aside0.mk (below_step HB.out HBx.out); have n1_ := Aside0.mk (LentAs.below HL2.out HBx.out); have n2_ := Aside0.mk (Kd.R_below HN5.out HBx.out); clear HB HL2 HN5 HBx; have HB := n0_; have HL2 := n1_; have HN5 := n2_; clear n0_ n1_ n2_; obtain ⟨A6, c6, hv6⟩ := Kd.R_slice HN6.out; subst hv6; clear hcvN5; have hcvN5 := own_string (P := Try.prog) Try.underlying22 Try.underlying5 Try.underlying9 (Kd.own_of_R HN5.out); have hcvN6 := own_string (P := Try.prog) Try.underlying22 Try.underlying5 Try.underlying9 (Kd.own_of_R HN6.out))
    | (go_at_call 17; (with_reducible refine (stays_any _ _ (.slice B1 p.length d1) p A0 c0 HL2.out (Kd.C_below HP.out HB.out) hc0 hlp).mono ?_); rintro e_ w' ⟨rfl, hd_⟩; obtain ⟨m1, rfl⟩ := hd_.out; have n0_ := Aside0.mk (pw_below_drewN HB.out m1); clear HB; have HB := n0_; clear n0_ hd_)
    | (go_at_call 18; refine (knows_any _).mono ?_; rintro e_ w9 ⟨rfl, HB9⟩; have n0_ := Aside0.mk (below_step HB.out HB9.out); clear HB; have HB := n0_; clear n0_))
      all_goals
        go_wp2
        go_ret
        exact ⟨rfl, HB.out⟩

end Go.Proofs.Ytbffeibcndbmgaa.Pg

/-! ## LooksRow -/
set_option linter.unusedVariables false
namespace Go.Proofs.Ytbffeibcndbmgaa.Pg
open Go.RowKit Go.Proofs.YtbffeibcndbmgaaW.PrintWords Go.Proofs.YtbffeibcndbmgaaW.PrintLast Go.Proofs.YtbffeibcndbmgaaW.PrintMore

theorem looks_row (a0 : Option Addr) (len0 cap0 : Nat) (z0 : List Int) (a1 : Int) (w : World) (w0 : (a0 = none ∧ len0 = 0 ∧ cap0 = 0 ∧ z0 = []) ∨ ∃ x, a0 = some x ∧ len0 ≤ cap0 ∧ cap0 ≤ maxLen ∧ z0.length = cap0 ∧ (∀ i, i < z0.length → w.cell? (x.add i) = some (.int .u8 (z0.getD i 0))) ∧ ∀ n ∈ z0, (Lit.int .u8 n).wf = true) (y0 : len0 * 1 ≤ 140737488351232) (w1 : (Lit.int .i64 a1).wf = true) :
    Calls Try.prog 3 #[.slice a0 len0 cap0, .int .i64 a1] w fun e w' => e = .returned (.bool true) ∧ Below w.heap.size w w' := by
  obtain ⟨l0, rfl, hr0, hm0, hw0, hc0⟩ := ReadsInt.ofRowC w0
  exact looks_any w a0 cap0 l0 a1 (Kd.C_of_reads (d := (0 : Int)) (h1 := fun _ => rfl) hr0) hc0 (bytes_of_wf hw0) (by omega)

end Go.Proofs.Ytbffeibcndbmgaa.Pg
