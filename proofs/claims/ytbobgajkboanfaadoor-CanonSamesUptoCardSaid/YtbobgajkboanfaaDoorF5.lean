/- The walks of the reference's One, of both Same. -/
import Derived.Test.YtbobgajkboanfaaDoorF3
import Derived.Test.YtbobgajkboanfaaDoorF4
import Derived.Deep.QuietTactic
import Derived.BigQuiet
namespace Go.Proofs.YtbobgajkboanfaaDoor.F5
open Go.RowKit Go.Proofs.YtbobgajkboanfaaDoorW.PrintWords Go.Proofs.YtbobgajkboanfaaDoorW.PrintLast Go.Proofs.YtbobgajkboanfaaDoor.PCanonSames
open A1 A2 A3 B0 B1 B2 B3 B4 C1 C2 C3 D1 D2 D3 D4 E1 E2 E3 E4 F1 F2 F3 F4
set_option linter.unusedVariables false
set_option linter.unusedSimpArgs false

theorem closed_some {K : Nat} {l : List S34} {i : Int} (hf : Fit l) (hk : 9999999 < K) (h : badG 0 l = some i) : ratchetref05_Closed.f K l = some (i, 50) := by rw [closed_f K l hf.smallG hk, closedR_some h]
theorem closed_none {K : Nat} {l : List S34} (hf : Fit l) (hk : 9999999 < K) (h : badG 0 l = none) : ratchetref05_Closed.f K l = some (0, 0) := by rw [closed_f K l hf.smallG hk, closedR_none h]

set_option maxHeartbeats 16000000 in
set_option maxRecDepth 100000 in
theorem refOne (a b : List S34) (A B : Option Addr) (ca cb : Nat) (x y : Int) (w : World) (hra : k34.C w A a.length a) (hca : a.length ≤ ca) (hrb : k34.C w B b.length b) (hcb : b.length ≤ cb) (fa : Fit a) (fb : Fit b) :
    Calls Tryd.prog 8 #[.slice A a.length ca, .slice B b.length cb, .int .i64 x, .int .i64 y] w fun e w' => e = .returned (.tuple #[.bool (oneR a b x y).1, .int .i64 (oneR a b x y).2]) ∧ Below w.heap.size w w' := by
  obtain ⟨K, hK⟩ : ∃ K : Nat, 9999999 < K := ⟨10000000, by omega⟩
  have HK := Aside0.mk hK
  have HA := Aside0.mk hra
  have HB := Aside0.mk hrb
  have HCA := Aside0.mk hca
  have HCB := Aside0.mk hcb
  have FA := Aside0.mk fa
  have FB := Aside0.mk fb
  clear hK hra hrb hca hcb fa fb
  go_enter Tryd.func8, Tryd.ntmps8
  cases hba : badG 0 a with
  | some i =>
    have E1 := Aside0.mk (closed_some FA.out HK.out hba)
    have E2 := Aside0.mk (closed_f K b FB.out.smallG HK.out)
    have R1 := Aside0.mk (oneR_a (b := b) (x := x) (y := y) hba)
    obtain ⟨⟨r1, r2⟩, hr⟩ : ∃ r, r = closedR b := ⟨_, rfl⟩
    rw [← hr] at E2
    clear hba hr
    go_wp2_with (go_at_call 13; go_loud (refine (ratchetref05_Closed.calls K A ca a i 50 _ HA.out HCA.out E1.out).mono ?_); rintro e w1 ⟨rfl, hb1⟩; refine Hid.out ?_)
    refine Lib.hid ?_
    have H1 := Aside0.mk hb1
    clear hb1
    go_wp2_with (go_at_call 13; go_loud (refine (ratchetref05_Closed.calls K B cb b r1 r2 _ (Kd.C_below HB.out H1.out) HCB.out E2.out).mono ?_); rintro e w2 ⟨rfl, hb2⟩; refine Hid.out ?_)
    refine Lib.hid ?_
    go_wp2
    go_ret2
    rw [R1.out]
    exact ⟨rfl, below_then H1.out H1.out.size hb2⟩
  | none =>
    have E1 := Aside0.mk (closed_none FA.out HK.out hba)
    have HBA := Aside0.mk hba
    clear hba
    go_wp2_with (go_at_call 13; go_loud (refine (ratchetref05_Closed.calls K A ca a 0 0 _ HA.out HCA.out E1.out).mono ?_); rintro e w1 ⟨rfl, hb1⟩; refine Hid.out ?_)
    refine Lib.hid ?_
    have H1 := Aside0.mk hb1
    clear hb1
    cases hbb : badG 0 b with
    | some i =>
      have E2 := Aside0.mk (closed_some FB.out HK.out hbb)
      have R1 := Aside0.mk (oneR_b (x := x) (y := y) HBA.out hbb)
      clear hbb
      go_wp2_with (go_at_call 13; go_loud (refine (ratchetref05_Closed.calls K B cb b i 50 _ (Kd.C_below HB.out H1.out) HCB.out E2.out).mono ?_); rintro e w2 ⟨rfl, hb2⟩; refine Hid.out ?_)
      refine Lib.hid ?_
      go_wp2
      go_ret2
      rw [R1.out]
      exact ⟨rfl, below_then H1.out H1.out.size hb2⟩
    | none =>
      have E2 := Aside0.mk (closed_none FB.out HK.out hbb)
      have HBB := Aside0.mk hbb
      clear hbb
      go_wp2_with (go_at_call 13; go_loud (refine (ratchetref05_Closed.calls K B cb b 0 0 _ (Kd.C_below HB.out H1.out) HCB.out E2.out).mono ?_); rintro e w2 ⟨rfl, hb2⟩; refine Hid.out ?_)
      refine Lib.hid ?_
      have H2 := Aside0.mk (below_then H1.out H1.out.size hb2)
      clear hb2 H1 E1 E2
      have HC := Aside0.mk (rcore_new w w2 H2.out)
      have HS0 := Aside0.mk (show SmallGs [] from fun _ h => (by cases h))
      go_wp2_with (go_at_call 14; go_loud (refine (refadd a A ca w _ w2.heap.size [] 0 0 (.slice none 0 0) HA.out FA.out.wt FA.out.rng (badG_none HBA.out) GoodT.zero (by omega) HS0.out HC.out).mono ?_); rintro e w6 ⟨u1, v1, rfl, hc6, hm6⟩; refine Hid.out ?_)
      refine Lib.hid ?_
      have HC6 := Aside0.mk hc6
      have HM6 := Aside0.mk hm6
      clear hc6 hm6 HC HS0
      go_wp2_with (go_at_call 14; go_loud (refine (refadd b B cb w w6 w2.heap.size (S1 a).gs (S1 a).many (wtG a) u1 HB.out FB.out.wt FB.out.rng (badG_none HBB.out) (S1_good FA.out) FA.out.wt HM6.out (rcore_again HC6.out)).mono ?_); rintro e w7 ⟨u2, v2, rfl, hc7, hm7⟩; refine Hid.out ?_)
      refine Lib.hid ?_
      have HR1 := Aside0.mk (R_keep85 HC6.out.idsR hc7.keep HC6.out.tab)
      have HR2 := Aside0.mk hc7.idsR
      have HB7 := Aside0.mk hc7.below
      clear hc7 hm7 HC6 HM6
      obtain ⟨A1, k1, e1, -, hv1⟩ := Kd.R_reads HR1.out
      obtain ⟨A2, k2, e2, -, hv2⟩ := Kd.R_reads HR2.out
      rw [show (addAll ⟨[], 0, []⟩ a).ids.length = total a from S1_len a] at e1 hv1
      rw [show (addAll ⟨(S1 a).gs, (S1 a).many, []⟩ b).ids.length = total b from S2_len a b] at e2 hv2
      subst e1
      subst e2
      have HV1 := Aside0.mk hv1
      have HV2 := Aside0.mk hv2
      clear hv1 hv2
      by_cases c1 : x < 0
      · have R1 := Aside0.mk (oneR_x (x := x) (y := y) HBA.out HBB.out (.inl c1))
        go_wp2
        go_ret2
        rw [R1.out]
        exact ⟨rfl, HB7.out⟩
      · by_cases c2 : (total a : Int) ≤ x
        · have R1 := Aside0.mk (oneR_x (x := x) (y := y) HBA.out HBB.out (.inr (.inl c2)))
          go_wp2
          go_ret2
          rw [R1.out]
          exact ⟨rfl, HB7.out⟩
        · by_cases c3 : y < 0
          · have R1 := Aside0.mk (oneR_x (x := x) (y := y) HBA.out HBB.out (.inr (.inr (.inl c3))))
            go_wp2
            go_ret2
            rw [R1.out]
            exact ⟨rfl, HB7.out⟩
          · by_cases c4 : (total b : Int) ≤ y
            · have R1 := Aside0.mk (oneR_x (x := x) (y := y) HBA.out HBB.out (.inr (.inr (.inr c4))))
              go_wp2
              go_ret2
              rw [R1.out]
              exact ⟨rfl, HB7.out⟩
            · have R1 := Aside0.mk (oneR_y (x := x) (y := y) HBA.out HBB.out (by omega))
              have x0 : 0 ≤ x := by omega
              have x1 : x < (total a : Int) := by omega
              have y0 : 0 ≤ y := by omega
              have y1 : y < (total b : Int) := by omega
              obtain ⟨ad1, ea1, hx⟩ := Kd.at_int HV1.out x x0 x1
              obtain ⟨ad2, ea2, hy⟩ := Kd.at_int HV2.out y y0 y1
              subst ea1
              subst ea2
              clear HV1 HV2
              go_wp2
              go_quiet (fail)
              go_wp2
              go_ret2
              rw [R1.out]
              exact ⟨rfl, pw_below_drewN HB7.out _⟩

set_option maxHeartbeats 1600000 in
set_option maxRecDepth 100000 in
theorem refSame (a : List S34) (A : Option Addr) (ca : Nat) (x y : Int) (w : World) (hra : k34.C w A a.length a) (hca : a.length ≤ ca) (fa : Fit a) :
    Calls Tryd.prog 6 #[.slice A a.length ca, .int .i64 x, .int .i64 y] w fun e w' => e = .returned (.tuple #[.bool (oneR a a x y).1, .int .i64 (oneR a a x y).2]) ∧ Below w.heap.size w w' := by
  go_enter Tryd.func6, Tryd.ntmps6
  go_wp2_with (go_at_call 8; go_loud (refine (refOne a a A A ca ca x y _ hra hca hra hca fa fa).mono ?_); rintro e w1 ⟨rfl, hb1⟩; refine Hid.out ?_)
  refine Lib.hid ?_
  go_wp2
  go_ret2
  exact ⟨rfl, hb1⟩
set_option maxHeartbeats 1600000 in
set_option maxRecDepth 100000 in
theorem same (a : List S34) (A : Option Addr) (ca : Nat) (x y : Int) (w : World) (hra : k34.C w A a.length a) (hca : a.length ≤ ca) (fa : Fit a) (htab : TAB w.heap.size w) :
    Calls Tryd.prog 4 #[.slice A a.length ca, .int .i64 x, .int .i64 y] w fun e w' => e = .returned (.tuple #[.bool (oneR a a x y).1, .int .i64 (oneR a a x y).2]) ∧ Below w.heap.size w w' := by
  go_enter Tryd.func4, Tryd.ntmps4
  go_wp2_with (go_at_call 7; go_loud (refine (E2.one a a A A ca ca x y _ hra hca hra hca fa fa htab).mono ?_); rintro e w1 ⟨rfl, hb1⟩; refine Hid.out ?_)
  refine Lib.hid ?_
  go_wp2
  go_ret2
  exact ⟨rfl, hb1⟩

set_option maxHeartbeats 4000000 in
set_option maxRecDepth 100000 in
/-- The whole law, walked. -/
theorem law (a b : List S34) (A B : Option Addr) (ca cb : Nat) (x y : Int) (w : World) (hra : k34.C w A a.length a) (hca : a.length ≤ ca) (hrb : k34.C w B b.length b) (hcb : b.length ≤ cb) (fa : Fit a) (fb : Fit b) (htab : TAB w.heap.size w) :
    Calls Tryd.prog 3 #[.slice A a.length ca, .slice B b.length cb, .int .i64 x, .int .i64 y] w fun e w' => e = .returned (.bool true) ∧ Below w.heap.size w w' := by
  obtain ⟨K, hK⟩ : ∃ K : Nat, 9999999 < K := ⟨10000000, by omega⟩
  have HA := Aside0.mk hra
  have HB := Aside0.mk hrb
  have HCA := Aside0.mk hca
  have HCB := Aside0.mk hcb
  have FA := Aside0.mk fa
  have FB := Aside0.mk fb
  have HTB := Aside0.mk htab
  have OA := Aside0.mk (own_f K a fa.smallG hK)
  have OB := Aside0.mk (own_f K b fb.smallG hK)
  clear hK hra hrb hca hcb fa fb htab
  obtain ⟨⟨s1, s2⟩, hs⟩ : ∃ r, r = oneR a a x y := ⟨_, rfl⟩
  obtain ⟨⟨t1, t2⟩, ht⟩ : ∃ r, r = oneR a b x y := ⟨_, rfl⟩
  have HS := Aside0.mk hs
  have HT := Aside0.mk ht
  clear hs ht
  go_enter Tryd.func3, Tryd.ntmps3
  go_wp2_with (go_at_call 5; go_loud (refine (ratchetlaw06_own.calls K A ca a a _ HA.out HCA.out OA.out).mono ?_); rintro e w1 ⟨v1, rfl, hr1, hb1⟩; refine Hid.out ?_)
  refine Lib.hid ?_
  obtain ⟨A1, k1, rfl, hk1, hv1⟩ := Kd.R_reads hr1
  have H1 := Aside0.mk hb1
  have HV1 := Aside0.mk hv1
  clear hr1 hb1 hv1
  go_wp2_with (go_at_call 4; go_loud (refine (same a A1 k1 x y _ HV1.out hk1 FA.out (tab_up HTB.out H1.out)).mono ?_); rintro e w2 ⟨rfl, hb2⟩; rw [← HS.out]; refine Hid.out ?_)
  refine Lib.hid ?_
  have H2 := Aside0.mk (below_then H1.out H1.out.size hb2)
  clear hb2 H1 HV1 hk1
  go_wp2_with (go_at_call 6; go_loud (refine (refSame a A ca x y _ (Kd.C_below HA.out H2.out) HCA.out FA.out).mono ?_); rintro e w3 ⟨rfl, hb3⟩; rw [← HS.out]; refine Hid.out ?_)
  refine Lib.hid ?_
  have H3 := Aside0.mk (below_then H2.out H2.out.size hb3)
  clear hb3 H2
  go_wp2_with (go_at_call 5; go_loud (refine (ratchetlaw06_own.calls K A ca a a _ (Kd.C_below HA.out H3.out) HCA.out OA.out).mono ?_); rintro e w4 ⟨v4, rfl, hr4, hb4⟩; refine Hid.out ?_)
  refine Lib.hid ?_
  obtain ⟨A4, k4, rfl, hk4, hv4⟩ := Kd.R_reads hr4
  have H4 := Aside0.mk (below_then H3.out H3.out.size hb4)
  have HV4 := Aside0.mk hv4
  clear hr4 hb4 hv4 H3
  go_wp2_with (go_at_call 5; go_loud (refine (ratchetlaw06_own.calls K B cb b b _ (Kd.C_below HB.out H4.out) HCB.out OB.out).mono ?_); rintro e w5 ⟨v5, rfl, hr5, hb5⟩; refine Hid.out ?_)
  refine Lib.hid ?_
  obtain ⟨A5, k5, rfl, hk5, hv5⟩ := Kd.R_reads hr5
  have H5 := Aside0.mk (below_then H4.out H4.out.size hb5)
  have HV5 := Aside0.mk hv5
  replace HV4 := Aside0.mk (Kd.C_below HV4.out hb5)
  clear hr5 hb5 hv5 H4
  go_wp2_with (go_at_call 7; go_loud (refine (E2.one a b A4 A5 k4 k5 x y _ HV4.out hk4 HV5.out hk5 FA.out FB.out (tab_up HTB.out H5.out)).mono ?_); rintro e w6 ⟨rfl, hb6⟩; rw [← HT.out]; refine Hid.out ?_)
  refine Lib.hid ?_
  have H6 := Aside0.mk (below_then H5.out H5.out.size hb6)
  clear hb6 H5 HV4 HV5 hk4 hk5
  go_wp2_with (go_at_call 8; go_loud (refine (refOne a b A B ca cb x y _ (Kd.C_below HA.out H6.out) HCA.out (Kd.C_below HB.out H6.out) HCB.out FA.out FB.out).mono ?_); rintro e w7 ⟨rfl, hb7⟩; rw [← HT.out]; refine Hid.out ?_)
  refine Lib.hid ?_
  have H7 := Aside0.mk (below_then H6.out H6.out.size hb7)
  clear hb7 H6
  go_wp2
  go_ret
  exact ⟨by simp, H7.out⟩
end Go.Proofs.YtbobgajkboanfaaDoor.F5
