/- The walk of canon.One. -/
import Derived.Test.YtbobgajkboanfaaDoorE1
import Derived.Deep.QuietTactic
import Derived.BigQuiet
namespace Go.Proofs.YtbobgajkboanfaaDoor.E2
open Go.RowKit Go.Proofs.YtbobgajkboanfaaDoorW.PrintWords Go.Proofs.YtbobgajkboanfaaDoorW.PrintLast Go.Proofs.YtbobgajkboanfaaDoor.PCanonSames
open A1 A2 A3 B0 B1 B2 B3 B4 C1 C2 C3 D1 D2 D3 D4 E1
set_option linter.unusedVariables false
set_option linter.unusedSimpArgs false

theorem R_keep68 {w w' : World} {gp base : Nat} {ok : Nat → Prop} {v : Value} {xs : List Int} {cs : Array Value} (h : (Kd.int .i64).R 3 w base ok v xs) (hk : Keep68 gp w w') (ht : w.heap[gp]? = some (.cells cs 54 (0, 0))) : (Kd.int .i64).R 3 w' base (fun _ => True) v xs := by
  refine Kd.R_mono (Kd.R_step (Kd.R_bound h) (fun k hb hl => ?_)) (fun _ _ => trivial)
  obtain ⟨_, _, _, q, hq, cells, hc⟩ := hb
  have hq3 : q = 3 := by simpa [Kd.int, Kd.scalar] using hq
  subst hq3
  rw [hk k cells 3 hc (by decide) (blk_ne hc ht (by decide)), hc]
/-- The table that New makes. -/
theorem core_new (w w1 : World) (h : Below w.heap.size w w1) : Core w ((w1.alloc (.map #[] 0)).alloc (.cells #[.slice none 0 0, .map (some w1.heap.size), .int .i64 0, .bool true] 54)) (w1.heap.size + 1) w1.heap.size (.slice none 0 0) ((0 : Nat) : Int) (.slice none 0 0) [] (.slice none 0 0) [] ((w1.alloc (.map #[] 0)).alloc (.cells #[.slice none 0 0, .map (some w1.heap.size), .int .i64 0, .bool true] 54)) := by
  have h2 := below_alloc (below_alloc h (.map #[] 0)) (.cells #[.slice none 0 0, .map (some w1.heap.size), .int .i64 0, .bool true] 54)
  exact ⟨by have := h.size; omega, h.size, h2.size, h2, Nat.le_refl _, Keep68.refl _ _, B0.blk_at (by simp) _, Kd.R_nil _ _ _ _ _, Kd.R_nil _ _ _ _ _⟩
theorem mp_new (w1 : World) : Mp w1.heap.size [] ((w1.alloc (.map #[] 0)).alloc (.cells #[.slice none 0 0, .map (some w1.heap.size), .int .i64 0, .bool true] 54)) :=
  ⟨0, _, Nat.le_refl _, (World.ownsMap_made _ _ _ _).alloc _, mapIs_nil⟩
theorem core_again {w0 w wr : World} {gp bm : Nat} {u v : Value} {many : Int} {gs : List S68} {ids : List Int} (h : Core w0 w gp bm u many u gs v ids wr) : Core w0 wr gp bm u many u gs (.slice none 0 0) [] wr :=
  ⟨h.lg, h.lb, Nat.le_trans h.lw h.size, h.below, Nat.le_refl _, Keep68.refl _ _, h.tab, Kd.R_mono h.gsR (fun _ _ => by simp [Value.ownBlock]), Kd.R_nil _ _ _ _ _⟩

set_option maxHeartbeats 16000000 in
set_option maxRecDepth 100000 in
theorem one (a b : List S34) (A B : Option Addr) (ca cb : Nat) (x y : Int) (w : World) (hra : k34.C w A a.length a) (hca : a.length ≤ ca) (hrb : k34.C w B b.length b) (hcb : b.length ≤ cb) (fa : Fit a) (fb : Fit b) (htab : TAB w.heap.size w) :
    Calls Tryd.prog 7 #[.slice A a.length ca, .slice B b.length cb, .int .i64 x, .int .i64 y] w fun e w' => e = .returned (.tuple #[.bool (oneR a b x y).1, .int .i64 (oneR a b x y).2]) ∧ Below w.heap.size w w' := by
  have HA := Aside0.mk hra
  have HB := Aside0.mk hrb
  have HCA := Aside0.mk hca
  have HCB := Aside0.mk hcb
  have FA := Aside0.mk fa
  have FB := Aside0.mk fb
  have HTB := Aside0.mk htab
  clear hra hrb hca hcb fa fb htab
  go_enter Tryd.func7, Tryd.ntmps7
  cases hba : badG 0 a with
  | some i =>
    have E1 := Aside0.mk (closedR_some hba)
    have R1 := Aside0.mk (oneR_a (b := b) (x := x) (y := y) hba)
    clear hba
    go_wp2_with (go_at_call 9; go_loud (refine (B4.closed a A ca _ HA.out FA.out.smallG).mono ?_); rintro e w1 ⟨rfl, hb1⟩; rw [E1.out]; refine Hid.out ?_)
    refine Lib.hid ?_
    go_wp2
    go_ret2
    rw [R1.out]
    exact ⟨rfl, hb1⟩
  | none =>
    have E1 := Aside0.mk (closedR_none hba)
    have HBA := Aside0.mk hba
    clear hba
    go_wp2_with (go_at_call 9; go_loud (refine (B4.closed a A ca _ HA.out FA.out.smallG).mono ?_); rintro e w1 ⟨rfl, hb1⟩; rw [E1.out]; refine Hid.out ?_)
    refine Lib.hid ?_
    have H1 := Aside0.mk hb1
    clear hb1
    cases hbb : badG 0 b with
    | some i =>
      have E2 := Aside0.mk (closedR_some hbb)
      have R1 := Aside0.mk (oneR_b (x := x) (y := y) HBA.out hbb)
      clear hbb
      go_wp2_with (go_at_call 9; go_loud (refine (B4.closed b B cb _ (Kd.C_below HB.out H1.out) FB.out.smallG).mono ?_); rintro e w2 ⟨rfl, hb2⟩; rw [E2.out]; refine Hid.out ?_)
      refine Lib.hid ?_
      go_wp2
      go_ret2
      rw [R1.out]
      exact ⟨rfl, below_then H1.out H1.out.size hb2⟩
    | none =>
      have E2 := Aside0.mk (closedR_none hbb)
      have HBB := Aside0.mk hbb
      clear hbb
      go_wp2_with (go_at_call 9; go_loud (refine (B4.closed b B cb _ (Kd.C_below HB.out H1.out) FB.out.smallG).mono ?_); rintro e w2 ⟨rfl, hb2⟩; rw [E2.out]; refine Hid.out ?_)
      refine Lib.hid ?_
      have H2 := Aside0.mk (below_then H1.out H1.out.size hb2)
      clear hb2 H1 E1 E2
      by_cases c1 : x < 0
      · have R1 := Aside0.mk (oneR_x (x := x) (y := y) HBA.out HBB.out (.inl c1))
        go_wp2
        go_ret2
        rw [R1.out]
        exact ⟨rfl, H2.out⟩
      · by_cases c2 : (total a : Int) ≤ x
        · have R1 := Aside0.mk (oneR_x (x := x) (y := y) HBA.out HBB.out (.inr (.inl c2)))
          go_wp2_with (go_at_call 10; go_loud (refine (types_Count.calls (a.length + 1) A ca a (total a) _ (Kd.C_below HA.out H2.out) HCA.out FA.out.count).mono ?_); rintro e w3 ⟨rfl, hb3⟩; refine Hid.out ?_)
          refine Lib.hid ?_
          go_wp2
          go_ret2
          rw [R1.out]
          exact ⟨rfl, below_then H2.out H2.out.size hb3⟩
        · by_cases c3 : y < 0
          · have R1 := Aside0.mk (oneR_x (x := x) (y := y) HBA.out HBB.out (.inr (.inr (.inl c3))))
            go_wp2_with (go_at_call 10; go_loud (refine (types_Count.calls (a.length + 1) A ca a (total a) _ (Kd.C_below HA.out H2.out) HCA.out FA.out.count).mono ?_); rintro e w3 ⟨rfl, hb3⟩; refine Hid.out ?_)
            refine Lib.hid ?_
            replace H2 := Aside0.mk (below_then H2.out H2.out.size hb3)
            clear hb3
            go_wp2
            go_ret2
            rw [R1.out]
            exact ⟨rfl, H2.out⟩
          · by_cases c4 : (total b : Int) ≤ y
            · have R1 := Aside0.mk (oneR_x (x := x) (y := y) HBA.out HBB.out (.inr (.inr (.inr c4))))
              go_wp2_with (go_at_call 10; go_loud (refine (types_Count.calls (a.length + 1) A ca a (total a) _ (Kd.C_below HA.out H2.out) HCA.out FA.out.count).mono ?_); rintro e w3 ⟨rfl, hb3⟩; refine Hid.out ?_)
              refine Lib.hid ?_
              replace H2 := Aside0.mk (below_then H2.out H2.out.size hb3)
              clear hb3
              go_wp2_with (go_at_call 10; go_loud (refine (types_Count.calls (b.length + 1) B cb b (total b) _ (Kd.C_below HB.out H2.out) HCB.out FB.out.count).mono ?_); rintro e w4 ⟨rfl, hb4⟩; refine Hid.out ?_)
              refine Lib.hid ?_
              replace H2 := Aside0.mk (below_then H2.out H2.out.size hb4)
              clear hb4
              go_wp2
              go_ret2
              rw [R1.out]
              exact ⟨rfl, H2.out⟩
            · have R1 := Aside0.mk (oneR_y (x := x) (y := y) HBA.out HBB.out (by omega))
              go_wp2_with (go_at_call 10; go_loud (refine (types_Count.calls (a.length + 1) A ca a (total a) _ (Kd.C_below HA.out H2.out) HCA.out FA.out.count).mono ?_); rintro e w3 ⟨rfl, hb3⟩; refine Hid.out ?_)
              refine Lib.hid ?_
              replace H2 := Aside0.mk (below_then H2.out H2.out.size hb3)
              clear hb3
              go_wp2_with (go_at_call 10; go_loud (refine (types_Count.calls (b.length + 1) B cb b (total b) _ (Kd.C_below HB.out H2.out) HCB.out FB.out.count).mono ?_); rintro e w4 ⟨rfl, hb4⟩; refine Hid.out ?_)
              refine Lib.hid ?_
              replace H2 := Aside0.mk (below_then H2.out H2.out.size hb4)
              clear hb4
              have HL := Aside0.mk H2.out.size
              go_wp2_with (go_at_call 11; go_loud (refine (D2.new w4).mono ?_); rintro e w5 ⟨rfl, hw5⟩; refine Hid.out ?_)
              refine Lib.hid ?_
              have HC := Aside0.mk (hw5 ▸ core_new w w4 H2.out)
              have HM := Aside0.mk (hw5 ▸ mp_new w4)
              clear hw5 H2
              go_wp2_with (go_at_call 12; go_loud (refine (D4.add a A ca w w5 (w4.heap.size + 1) w4.heap.size [] 0 0 (.slice none 0 0) HA.out FA.out.wt FA.out.rng (badG_none HBA.out) GoodT.zero (by omega) HC.out HM.out HTB.out).mono ?_); rintro e w6 ⟨u1, v1, rfl, hc6, hm6⟩; refine Hid.out ?_)
              refine Lib.hid ?_
              have HC6 := Aside0.mk hc6
              have HM6 := Aside0.mk hm6
              clear hc6 hm6 HC HM
              go_wp2_with (go_at_call 12; go_loud (refine (D4.add b B cb w w6 (w4.heap.size + 1) w4.heap.size (S1 a).gs (S1 a).many (wtG a) u1 HB.out FB.out.wt FB.out.rng (badG_none HBB.out) (S1_good FA.out) FA.out.wt (core_again HC6.out) HM6.out HTB.out).mono ?_); rintro e w7 ⟨u2, v2, rfl, hc7, hm7⟩; refine Hid.out ?_)
              refine Lib.hid ?_
              have HR1 := Aside0.mk (R_keep68 HC6.out.idsR hc7.keep HC6.out.tab)
              have HR2 := Aside0.mk hc7.idsR
              have HB7 := Aside0.mk hc7.below
              clear hc7 hm7 HC6 HM6
              obtain ⟨A1, k1, e1, -, hv1⟩ := Kd.R_reads HR1.out
              obtain ⟨A2, k2, e2, -, hv2⟩ := Kd.R_reads HR2.out
              rw [show (addAll ⟨[], 0, []⟩ a).ids.length = total a from S1_len a] at e1 hv1
              rw [show (addAll ⟨(S1 a).gs, (S1 a).many, []⟩ b).ids.length = total b from S2_len a b] at e2 hv2
              subst e1
              subst e2
              have x0 : 0 ≤ x := by omega
              have x1 : x < (total a : Int) := by omega
              have y0 : 0 ≤ y := by omega
              have y1 : y < (total b : Int) := by omega
              obtain ⟨ad1, ea1, hx⟩ := Kd.at_int hv1 x x0 x1
              obtain ⟨ad2, ea2, hy⟩ := Kd.at_int hv2 y y0 y1
              subst ea1
              subst ea2
              clear hv1 hv2 c1 c2 c3 c4
              go_wp2
              go_quiet (fail)
              go_wp2
              go_ret2
              rw [R1.out]
              exact ⟨rfl, pw_below_drewN HB7.out _⟩
end Go.Proofs.YtbobgajkboanfaaDoor.E2
