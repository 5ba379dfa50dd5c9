/- The walk of parts.add: the ids of the groups, and the table behind them. -/
import Derived.Test.YtbobgajkboanfaaDoorB3
import Derived.Test.YtbobgajkboanfaaDoorM3
namespace Go.Proofs.YtbobgajkboanfaaDoor.D4
open Go.RowKit Go.Proofs.YtbobgajkboanfaaDoorW.PrintWords Go.Proofs.YtbobgajkboanfaaDoorW.PrintLast Go.Proofs.YtbobgajkboanfaaDoor.PCanonSames
open A1 A2 A3 B0 B1 B2 B3 B4 C1 C2 C3 D1 D2 D3
set_option linter.unusedVariables false
set_option linter.unusedSimpArgs false

set_option maxHeartbeats 16000000 in
set_option maxRecDepth 100000 in
theorem add (l : List S34) (A : Option Addr) (c : Nat) (w0 w : World) (gp bm : Nat) (gs0 : List S68) (many0 : Nat) (B : Nat) (u0 : Value)
 (hr : k34.C w0 A l.length l) (hw : wtG l ≤ 1048576) (hrg : rngL l) (hok : okL 0 l) (hB : GoodT ⟨gs0, many0, []⟩ B) (hBl : B ≤ 1048576)
 (hc : Core w0 w gp bm u0 many0 u0 gs0 (.slice none 0 0) [] w) (hm : Mp bm gs0 w) (htab : TAB w0.heap.size w0) :
 Calls Tryd.prog 12 #[.pointer (some ⟨gp, 0, none⟩), .slice A l.length c, .int .i64 9223372036854775807] w fun e w' => ∃ u' v, e = .returned (.tuple #[v, .int .i64 (-1)]) ∧
  Core w0 w gp bm u' (addAll ⟨gs0, many0, []⟩ l).many u' (addAll ⟨gs0, many0, []⟩ l).gs v (addAll ⟨gs0, many0, []⟩ l).ids w' ∧ Mp bm (addAll ⟨gs0, many0, []⟩ l).gs w' := by
 have HR := Aside0.mk hr
 have HW := Aside0.mk hw
 have HF := Aside0.mk (fun (i : Nat) (hi : i < l.length) (S : St) (hS : S = addAll ⟨gs0, many0, []⟩ (l.take i)) => facts rfl hw hrg hok hB hBl hi hS)
 have HTB := Aside0.mk htab
 have HC0 := Aside0.mk hc
 have HM0 := Aside0.mk hm
 have ll : l.length ≤ 1048576 := Nat.le_trans (wtG_len l) hw
 clear hr hw hrg hok hB hBl hc hm htab
 go_enter Tryd.func12, Tryd.ntmps12
 go_wp2
 go_loopw [8, 21] (fun v8 v21 wr => ∃ (i : Nat) (S : St) (u : Value), i ≤ l.length ∧ v21 = .int .i64 i ∧ Aside0 (S = addAll ⟨gs0, many0, []⟩ (l.take i)) ∧ Aside0 (Core w0 w gp bm (u) (S.many) (u) (S.gs) (v8) (S.ids) wr) ∧ Aside0 (Mp bm S.gs wr)) (fun _ v21 _ => l.length - (intOf v21).toNat)
 case atStart => exact ⟨0, ⟨gs0, many0, []⟩, u0, Nat.zero_le _, rfl, ⟨rfl⟩, HC0, HM0⟩
 case round =>
  clear HC0 HM0
  obtain ⟨i, S, u, hi, rfl, HS, HC, HM⟩ := hrel
  obtain ⟨wo, rfl⟩ : ∃ wo : World, wo = wr := ⟨_, rfl⟩
  obtain ⟨Ai, ci, rfl⟩ := Kd.R_slice HC.out.idsR
  by_cases hlt : i < l.length
  ·
   have i0 : (0 : Int) ≤ (i : Int) := Int.natCast_nonneg _
   have i1 : (i : Int) < (l.length : Int) := by omega
   have HN := Aside0.mk (HF.out i hlt S HS.out)
   have il : S.ids.length + (rd_T34 l ↑i).f0.length ≤ 1048576 := HN.out.idl
   obtain ⟨ad, A0, c0, eA, hx0, hx1, -, hc0⟩ := at_T34 HR.out (i : Int) i0 i1
   cases eA
   have HG := Aside0.mk hc0
   clear hc0
   replace hx0 := pw_cell_below HC.out.below hx0
   replace hx1 := pw_cell_below HC.out.below hx1
   rw [Int.toNat_natCast] at hx0 hx1
   have HIC := Aside0.mk (R_C HC.out.idsR).2
   go_wp2_with (go_at_call 17; go_loud (refine (rolled Ai S.ids.length ci _).mono ?_); rintro e w1 ⟨rfl, hw1⟩; refine Hid.out ?_)
   refine Lib.hid ?_
   clear hx0 hx1
   have HX := Aside0.mk (hw1 ▸ blk_alloc (blk_new wo (.cells #[.slice A0 (rd_T34 l ↑i).f0.length c0, .bool (rd_T34 l ↑i).f1] 34)) (.cells #[.slice Ai S.ids.length ci] 35))
   have HY := Aside0.mk (hw1 ▸ B0.blk_at (w := wo.alloc (.cells #[.slice A0 (rd_T34 l ↑i).f0.length c0, .bool (rd_T34 l ↑i).f1] 34)) (n := wo.heap.size + 1) (by simp) (.cells #[.slice Ai S.ids.length ci] 35))
   replace HC := Aside0.mk (hw1 ▸ (HC.out.alloc (.cells #[.slice A0 (rd_T34 l ↑i).f0.length c0, .bool (rd_T34 l ↑i).f1] 34)).alloc (.cells #[.slice Ai S.ids.length ci] 35))
   replace HM := Aside0.mk (hw1 ▸ (HM.out.alloc (.cells #[.slice A0 (rd_T34 l ↑i).f0.length c0, .bool (rd_T34 l ↑i).f1] 34)).alloc (.cells #[.slice Ai S.ids.length ci] 35))
   replace HIC := Aside0.mk (Kd.C_below HIC.out (hw1 ▸ below_alloc (below_alloc (Below.refl _ _) (.cells #[.slice A0 (rd_T34 l ↑i).f0.length c0, .bool (rd_T34 l ↑i).f1] 34)) (.cells #[.slice Ai S.ids.length ci] 35)))
   have hsz : wo.heap.size + 1 < w1.heap.size := blk_lt HY.out
   have hga : (wo.alloc (.cells #[.slice A0 (rd_T34 l ↑i).f0.length c0, .bool (rd_T34 l ↑i).f1] 34)).heap.size = wo.heap.size + 1 := by simp
   have g0 : w1.cell? ⟨wo.heap.size, 0, none⟩ = some (.slice A0 (rd_T34 l ↑i).f0.length c0) := (blk_cell HX.out 0).trans rfl
   clear hw1
   go_wp2
   go_loopw [12, 31] (fun v12 v31 wr => ∃ (q : Nat), q ≤ (rd_T34 l ↑i).f0.length ∧ v31 = .int .i64 q ∧ Aside0 (Below w1.heap.size w1 wr) ∧ Aside0 (k41.R 41 wr w1.heap.size (fun _ => True) v12 (((rd_T34 l ↑i).f0.take q).map (mapS S.ids)))) (fun _ v31 _ => (rd_T34 l ↑i).f0.length - (intOf v31).toNat)
   case atStart => exact ⟨0, Nat.zero_le _, rfl, ⟨Below.refl _ _⟩, ⟨Kd.R_nil _ _ _ _ _⟩⟩
   case round =>
    clear g0
    obtain ⟨q, hq, rfl, HBL, HO⟩ := hrel
    obtain ⟨wq, rfl⟩ : ∃ wq : World, wq = wr := ⟨_, rfl⟩
    obtain ⟨Ao, co, ev⟩ := Kd.R_slice HO.out
    rw [show (((rd_T34 l ↑i).f0.take q).map (mapS S.ids)).length = q from by rw [List.length_map, List.length_take]; omega] at ev
    subst ev
    by_cases hlq : q < (rd_T34 l ↑i).f0.length
    ·
     have q0 : (0 : Int) ≤ (q : Int) := Int.natCast_nonneg _
     have q1 : (q : Int) < ((rd_T34 l ↑i).f0.length : Int) := by omega
     obtain ⟨ad3, A1, k1, A3, k3, A4, k4, A5, k5, eA, hx0, hx1, hx2, hx3, hx4, hx5, hl1, hc1, hl3, hc3, hl4, hc4, hl5, hc5⟩ := at_T41 HG.out (q : Int) q0 q1
     cases eA
     have HD := Aside0.mk (below_then HC.out.below HC.out.below.size HBL.out)
     have HD1 := Aside0.mk (below_alloc HD.out (.cells #[.bool (rd_T41 (rd_T34 l ↑i).f0 ↑q).f0, .slice A1 (rd_T41 (rd_T34 l ↑i).f0 ↑q).f1.length k1, .int .i64 (rd_T41 (rd_T34 l ↑i).f0 ↑q).f2.f0, .slice A3 (rd_T41 (rd_T34 l ↑i).f0 ↑q).f2.f1.length k3, .slice A4 (rd_T41 (rd_T34 l ↑i).f0 ↑q).f2.f2.length k4, .slice A5 (rd_T41 (rd_T34 l ↑i).f0 ↑q).f2.f3.length k5] 41))
     have HC1 := Aside0.mk (Kd.C_below hc1 HD1.out)
     have HC3 := Aside0.mk (Kd.C_below hc3 HD1.out)
     have HC4 := Aside0.mk (Kd.C_below hc4 HD1.out)
     have HC5 := Aside0.mk (Kd.C_below hc5 HD1.out)
     clear hc1 hc3 hc4 hc5 hl1 hl3 hl4 hl5
     replace hx0 := pw_cell_below HD.out hx0
     replace hx1 := pw_cell_below HD.out hx1
     replace hx2 := pw_cell_below HD.out hx2
     replace hx3 := pw_cell_below HD.out hx3
     replace hx4 := pw_cell_below HD.out hx4
     replace hx5 := pw_cell_below HD.out hx5
     rw [Int.toNat_natCast] at hx0 hx1 hx2 hx3 hx4 hx5
     have HT := Aside0.mk (mem_T41 (rd_T34 l ↑i).f0 q hlq)
     have HY1 := Aside0.mk (blk_alloc (blk_below HY.out HBL.out) (.cells #[.bool (rd_T41 (rd_T34 l ↑i).f0 ↑q).f0, .slice A1 (rd_T41 (rd_T34 l ↑i).f0 ↑q).f1.length k1, .int .i64 (rd_T41 (rd_T34 l ↑i).f0 ↑q).f2.f0, .slice A3 (rd_T41 (rd_T34 l ↑i).f0 ↑q).f2.f1.length k3, .slice A4 (rd_T41 (rd_T34 l ↑i).f0 ↑q).f2.f2.length k4, .slice A5 (rd_T41 (rd_T34 l ↑i).f0 ↑q).f2.f3.length k5] 41))
     have HI1 := Aside0.mk (Kd.C_below HIC.out (below_alloc HBL.out (.cells #[.bool (rd_T41 (rd_T34 l ↑i).f0 ↑q).f0, .slice A1 (rd_T41 (rd_T34 l ↑i).f0 ↑q).f1.length k1, .int .i64 (rd_T41 (rd_T34 l ↑i).f0 ↑q).f2.f0, .slice A3 (rd_T41 (rd_T34 l ↑i).f0 ↑q).f2.f1.length k3, .slice A4 (rd_T41 (rd_T34 l ↑i).f0 ↑q).f2.f2.length k4, .slice A5 (rd_T41 (rd_T34 l ↑i).f0 ↑q).f2.f3.length k5] 41)))
     have HO1 := Aside0.mk (Kd.R_alloc HO.out (.cells #[.bool (rd_T41 (rd_T34 l ↑i).f0 ↑q).f0, .slice A1 (rd_T41 (rd_T34 l ↑i).f0 ↑q).f1.length k1, .int .i64 (rd_T41 (rd_T34 l ↑i).f0 ↑q).f2.f0, .slice A3 (rd_T41 (rd_T34 l ↑i).f0 ↑q).f2.f1.length k3, .slice A4 (rd_T41 (rd_T34 l ↑i).f0 ↑q).f2.f2.length k4, .slice A5 (rd_T41 (rd_T34 l ↑i).f0 ↑q).f2.f3.length k5] 41))
     have HB1 := Aside0.mk (below_alloc HBL.out (.cells #[.bool (rd_T41 (rd_T34 l ↑i).f0 ↑q).f0, .slice A1 (rd_T41 (rd_T34 l ↑i).f0 ↑q).f1.length k1, .int .i64 (rd_T41 (rd_T34 l ↑i).f0 ↑q).f2.f0, .slice A3 (rd_T41 (rd_T34 l ↑i).f0 ↑q).f2.f1.length k3, .slice A4 (rd_T41 (rd_T34 l ↑i).f0 ↑q).f2.f2.length k4, .slice A5 (rd_T41 (rd_T34 l ↑i).f0 ↑q).f2.f3.length k5] 41))
     clear HO HBL
     go_wp2_with (first | (go_at_call 18; go_loud (refine (B3.mapped (rd_T41 (rd_T34 l ↑i).f0 ↑q) A1 A3 A4 A5 k1 k3 k4 k5 S.ids Ai ci (wo.heap.size + 1) ((S.ids.length + (rd_T34 l ↑i).f0.length : Nat) : Int) _ HC1.out HC3.out HC4.out HC5.out (HN.out.sml _ HT.out).1 (HN.out.sml _ HT.out).2.1 (HN.out.sml _ HT.out).2.2.1 (HN.out.sml _ HT.out).2.2.2 (HN.out.oks _ HT.out) (by omega) ((blk_cell HY1.out 0).trans rfl) HI1.out (by omega)).mono ?_); rintro e w2 ⟨v1, v3, v4, v5, rfl, hM, hb2⟩; refine Hid.out ?_))
     refine Lib.hid ?_
     have HM2 := Aside0.mk hM
     have HO2 := Aside0.mk (Kd.R_below HO1.out hb2)
     have HB2 := Aside0.mk (below_then HB1.out HB1.out.size hb2)
     clear hM HY1 HI1 HC1 HC3 HC4 HC5 hx0 hx1 hx2 hx3 hx4 hx5 HD HD1
     go_wp2_with (first | ((with_reducible refine gate_builtin (b := .append) (xs := #[.tmp 35, .tmp 39]) rfl ?_); at_builtin; refine Kd.R_append k41 (w0 := w1) w1.heap.size rfl (.tmp 35) (.tmp 39) 32 41 (.agg #[(.bool false), (.slice none 0 0), (.int .i64 0), (.slice none 0 0), (.slice none 0 0), (.slice none 0 0)]) 112 rfl Tryd.underlying32 info41 rfl (by decide) (by omega) (.slice Ao q co) (((rd_T34 l ↑i).f0.take q).map (mapS S.ids)) (mapS S.ids (rd_T41 (rd_T34 l ↑i).f0 ↑q)) [.bool (rd_T41 (rd_T34 l ↑i).f0 ↑q).f0, v1, .int .i64 (rd_T41 (rd_T34 l ↑i).f0 ↑q).f2.f0, v3, v4, v5] (fun _ => True) (fun k_ => True ∧ some k_ ≠ (Value.slice Ao q co).ownBlock) rfl rfl ?aP (fun _ hk => hk) ?aF ?aO ?aB ?aS ?aL ?_; (case aP => exact k41.M_lower HB1.out.size (Kd.M_new HM2.out (Kd.R_own HO1.out).choose_spec)); (case aB => exact HB2.out); (case aF => exact (fun _ _ => trivial)); (case aO => exact HO2.out); (case aS => exact HB2.out.size); (case aL => have := List.length_take_le q (rd_T34 l ↑i).f0; rw [List.length_map]; omega); intro v' w3 ho hb hg hat; have HO3 := Aside0.mk ho; have HB3 := Aside0.mk hb; clear ho hb hg hat HM2 HO2 HB2))
     go_roundw
     case rel => exact ⟨q + 1, by omega, by go_num, HB3, ⟨by rw [take_T41 _ _ hlq, List.map_append]; exact HO3.out⟩⟩
     case measure => simp [intOf]; omega
    ·
     skip
     have HE := Aside0.mk (own_len S.ids (rd_T34 l ↑i))
     obtain ⟨O, hO⟩ : ∃ O, O = own S.ids (rd_T34 l ↑i) := ⟨_, rfl⟩
     have HOE := Aside0.mk hO
     rw [← hO] at HE
     have ol : O.length ≤ 1048576 := by have := HE.out; omega
     obtain rfl : q = O.length := by have := HE.out; omega
     replace HO := Aside0.mk (show k41.R 41 wq w1.heap.size (fun _ => True) (.slice Ao O.length co) O by have h := HO.out; rw [HE.out, List.take_of_length_le (Nat.le_refl _)] at h; rw [HE.out, HOE.out]; exact h)
     have HOR := Aside0.mk (show ∀ s, s ∈ O → rngS s by rw [hO]; exact HN.out.rng)
     have HOW := Aside0.mk (show wtT O ≤ 1048576 by rw [hO, own_wt]; exact HN.out.wt)
     have oe : ¬ ((O.length : Int) < ((rd_T34 l ↑i).f0.length : Int)) := by have := HE.out; omega
     clear hO hq hlq
     have HD := Aside0.mk (below_then HC.out.below HC.out.below.size HBL.out)
     have HOC := Aside0.mk (R_C HO.out).2
     go_wp2_with (go_at_call 19; go_loud (refine (C3.key O Ao co _ HOC.out HOW.out ol HOR.out (tab_up HTB.out HD.out)).mono ?_); rintro e w2 ⟨rfl, hb⟩; refine Hid.out ?_)
     refine Lib.hid ?_
     have hol2 : w1.heap.size ≤ w2.heap.size := Nat.le_trans HBL.out.size hb.size
     have HO2 := Aside0.mk (Kd.R_new (Kd.R_new (Kd.R_below HO.out hb) (Kd.R_own HC.out.idsR).choose_spec) (Kd.R_own HC.out.gsR).choose_spec)
     have HC2 := Aside0.mk ((HC.out.same HBL.out).same hb)
     have HM2 := Aside0.mk ((HM.out.same HBL.out).same hb)
     have HL1 := Aside0.mk (show w0.heap.size ≤ w1.heap.size from Nat.le_trans HC.out.lw HC.out.size)
     clear HD HOC HO HC HM HBL HX HY HIC HG hb hsz hga
     have HKL := Aside0.mk (Nat.le_trans (keyB_len O HOR.out HOW.out) (by have := HOW.out; omega : 200 * wtT O ≤ 209715200))
     have hkey := key_of O HKL.out
     obtain ⟨Au, cu, rfl⟩ := Kd.R_slice HC2.out.gsR
     obtain ⟨n, D, hn, hown, hD⟩ := HM2.out
     have HDD := Aside0.mk hD
     clear hD HM2
     have c1 : w2.cell? ⟨gp, 1, none⟩ = some (.map (some bm)) := (blk_cell HC2.out.tab 1).trans rfl
     have LG : S.gs.length ≤ 2097152 := HN.out.good.gsl
     have LM : S.many ≤ 2097152 := HN.out.good.many
     cases hf : findK O S.gs with
     | some j =>
      obtain ⟨e1, e2, e3⟩ := findK_place hf
      have HGS := Aside0.mk e1
      have HMN := Aside0.mk e2
      have HPL := Aside0.mk e3
      have hhas := (HDD.out.yes hf).1
      have HAT := Aside0.mk (HDD.out.yes hf).2
      clear e1 e2 e3 hf
      go_wp2_with (first | (at_lookup; refine wpList_lookup_own_ok_int _ rfl _ _ 50 rfl 9 3 .i64 law9 Tryd.underlying50 Tryd.underlying3 (D3.zero3 _) bm n D rfl hown _ _ rfl hkey ?_; intro cL hat hwc; rw [hhas]) | go_in)
      have HP := Aside0.mk (show cL = ((place O S : Nat) : Int) by have h := hat; rw [HAT.out] at h; injection h with h; injection h with _ h; rw [HPL.out]; exact h.symm)
      have HMP := Aside0.mk (show Mp bm S.gs w2 from ⟨n, D, hn, hown, HDD.out⟩)
      clear hat hwc hhas hown hkey c1 HAT HDD HPL HO2 hn
      have idx0 : (0 : Int) ≤ cL := by have := HP.out; omega
      have idx1 : cL < (S.gs.length : Int) := by have h1 := HP.out; have h2 := place_lt O S; rw [HGS.out] at h2; omega
      obtain ⟨f, hf⟩ : ∃ f, f = (rd_T68 S.gs cL).f0 := ⟨_, rfl⟩
      have HFE := Aside0.mk hf
      have fb : 0 ≤ f ∧ f ≤ 2097152 := by
       have h := HN.out.next.first (rd_T68 S.gs (place O S)) (by
        have hm := mem_T68 S.gs (place O S) (by have h2 := place_lt O S; rw [HGS.out] at h2; exact h2)
        rw [step_eq, ← HOE.out]
        show _ ∈ gsOf O S
        rw [HGS.out]
        exact hm)
       rw [hf, HP.out]
       exact h
      obtain ⟨fb0, fb1⟩ := fb
      clear hf
      go_loopw [8, 102] (fun v8 v102 wr => ∃ (q : Nat), q ≤ O.length ∧ v102 = .int .i64 q ∧ Aside0 (Core w0 w gp bm (.slice Au S.gs.length cu) (((S.many : Nat) : Int)) (.slice Au S.gs.length cu) (S.gs) (v8) (S.ids ++ fam f q) wr) ∧ Aside0 (Mp bm S.gs wr)) (fun _ v102 _ => O.length - (intOf v102).toNat)
      case atStart => exact ⟨0, Nat.zero_le _, rfl, ⟨by have h := HC2.out; simpa [fam] using h⟩, HMP⟩
      case round =>
       clear HC2 HMP
       obtain ⟨q, hq, rfl, HC, HM⟩ := hrel
       obtain ⟨wx, rfl⟩ : ∃ wx : World, wx = wr := ⟨_, rfl⟩
       obtain ⟨Av, cv, ev⟩ := Kd.R_slice HC.out.idsR
       rw [show (S.ids ++ fam f q).length = S.ids.length + q from by rw [List.length_append, fam_len]] at ev
       subst ev
       by_cases hlq : q < O.length
       ·
        have q0 : (0 : Int) ≤ (q : Int) := Int.natCast_nonneg _
        obtain ⟨ad, A1, c1', eA, hx, -⟩ := at_T68 (R_C HC.out.gsR).2 cL idx0 idx1
        cases eA
        rw [← HFE.out] at hx
        have ct : wx.cell? ⟨gp, 0, none⟩ = some (.slice (some ad) S.gs.length cu) := (blk_cell HC.out.tab 0).trans rfl
        go_wp2_with (first | ((with_reducible refine gate_builtin (b := .append) (xs := #[.tmp 105, .tmp 116]) rfl ?_); at_builtin; refine Kd.R_append (Kd.int .i64) (w0 := wx) w.heap.size ?aA (.tmp 105) (.tmp 116) 35 3 (.int .i64 0) 8 ?aC Tryd.underlying35 info3 rfl (by decide) (by omega) (.slice Av (S.ids.length + q) cv) (S.ids ++ fam f q) (f + ↑q) [.int .i64 (f + ↑q)] (fun _ => True) (fun _ => False) ?aE ?aG ?aP (fun _ hk => hk.elim) ?aF ?aO ?aB ?aS ?aL ?_; (case aA => rfl); (case aC => rfl); (case aE => rfl); (case aG => rfl); (case aP => exact rfl); (case aB => exact Below.refl _ _); (case aF => exact (fun _ _ => trivial)); (case aO => exact HC.out.idsR); (case aS => exact HC.out.size); (case aL => have := HE.out; rw [List.length_append, fam_len]; omega); intro v' w3 ho hb hg hat; have HC3 := Aside0.mk (HC.out.idsApp hg hat ho); have HM3 := Aside0.mk (HM.out.grown HC.out.idsR hg); clear ho hb hg hat HC HM))
        go_roundw
        case rel => exact ⟨q + 1, by omega, by go_num, ⟨by rw [fam_snoc, ← List.append_assoc]; exact HC3.out⟩, HM3⟩
        case measure => simp [intOf]; omega
       ·
        skip
        obtain rfl : q = O.length := by omega
        have HST := Aside0.mk (show stepSt S (rd_T34 l ↑i) = ⟨S.gs, S.many, S.ids ++ fam f O.length⟩ by rw [step_eq, ← HOE.out, HGS.out, HMN.out, HFE.out, HP.out])
        go_wp2
        go_roundw
        case rel => exact ⟨i + 1, stepSt S (rd_T34 l ↑i), .slice Au S.gs.length cu, by omega, by go_num, ⟨by rw [addAll_step _ _ _ hlt, ← HS.out]⟩, ⟨by rw [HST.out]; exact HC.out⟩, ⟨by rw [HST.out]; exact HM.out⟩⟩
        case measure => simp [intOf]; omega
     | none =>
      obtain ⟨e1, e2, e3⟩ := findK_none hf
      obtain ⟨gs', hgs'⟩ : ∃ x, x = S.gs ++ [(⟨S.many, O⟩ : S68)] := ⟨_, rfl⟩
      have HG2 := Aside0.mk hgs'
      have HGS := Aside0.mk (e1.trans hgs'.symm)
      have HMN := Aside0.mk e2
      have HPL := Aside0.mk e3
      have HPUT := Aside0.mk (hgs' ▸ HDD.out.put hf S.many)
      have hhas := HDD.out.no hf
      clear e1 e2 e3 hf hgs' HDD
      have hnl : n < maxLen := Nat.lt_of_le_of_lt (Nat.le_trans hn LG) (by decide)
      have hval := val_of S.gs.length LG
      have c0 : w2.cell? ⟨gp, 0, none⟩ = some (.slice Au S.gs.length cu) := (blk_cell HC2.out.tab 0).trans rfl
      have c2 : w2.cell? ⟨gp, 2, none⟩ = some (.int .i64 S.many) := (blk_cell HC2.out.tab 2).trans rfl
      go_wp2_with (first | (at_lookup; refine wpList_lookup_own_ok_int _ rfl _ _ 50 rfl 9 3 .i64 law9 Tryd.underlying50 Tryd.underlying3 (D3.zero3 _) bm n D rfl hown _ _ rfl hkey ?_; intro cL hat hwc; rw [hhas]) | (at_mapUpdate; refine wpList_mapUpdate_in _ rfl _ _ _ 50 rfl 9 3 law9 Tryd.underlying50 (plainElem Tryd.prog 3) bm n D rfl hown hnl _ _ _ rfl rfl hkey (.lit (.int .i64 S.gs.length)) [] hval ?_; intro w3 hown3 hturn; refine Hid.out ?_) | go_in)
      refine Lib.hid ?_
      have HC3 := Aside0.mk (HC2.out.mapped hturn)
      have HO3 := Aside0.mk (R_map HO2.out hturn)
      have HM3 := Aside0.mk (show Mp bm gs' w3 from ⟨n + 1, _, by rw [HG2.out, List.length_append, List.length_singleton]; omega, hown3, HPUT.out⟩)
      clear hat hwc hhas hown hkey c0 c1 c2 hval hnl hn hown3 hturn HPUT HC2 HO2
      go_wp2
      replace HC3 := Aside0.mk HC3.out.drew
      replace HO3 := Aside0.mk (Kd.R_drew HO3.out)
      replace HM3 := Aside0.mk HM3.out.drew
      refine start_ (n := 16) (S := fun w' => w'.cell? ⟨gp, 0, none⟩ = some (.slice Au S.gs.length cu) ∧ w'.cell? ⟨gp, 2, none⟩ = some (.int .i64 (S.many : Int))) (ds := [15]) #[false, false, false, false, false, false, false, false, false, false, false, false, false, false, false, false] (by kernel_rfl) rfl rfl ⟨(blk_cell HC3.out.tab 0).trans rfl, (blk_cell HC3.out.tab 2).trans rfl⟩ (fun hHeld => ?_)
      generalize w3.drew = x1 at HC3 HO3 HM3 hHeld ⊢
      refine pure_ (i := 0) (N := some 76) (v := ?_) (a' := ?_) #[true, false, false, false, false, false, false, false, false, false, false, false, false, false, false, false] rfl rfl (by kernel_rfl) (fun _ _ _ h => h) (Or.inl ⟨by rfl, ?_⟩) ?_ ?_
      rotate_left; · (intro w'; go_simp; with_reducible rfl)
      rotate_left; · (simp only [Act.put, List.setIfInBounds_toArray, List.set_cons_zero, List.set_cons_succ, i64_w, i32_w]; rfl)
      refine pure_ (i := 1) (N := some 77) (v := ?_) (a' := ?_) #[true, true, false, false, false, false, false, false, false, false, false, false, false, false, false, false] rfl rfl (by kernel_rfl) (fun _ _ _ h => h) (Or.inl ⟨by rfl, ?_⟩) ?_ ?_
      rotate_left; · (intro w'; go_simp; with_reducible rfl)
      rotate_left; · (simp only [Act.put, List.setIfInBounds_toArray, List.set_cons_zero, List.set_cons_succ, i64_w, i32_w]; rfl)
      refine pure_ (i := 2) (N := some 78) (v := ?_) (a' := ?_) #[true, true, true, false, false, false, false, false, false, false, false, false, false, false, false, false] rfl rfl (by kernel_rfl) (fun _ _ _ h => h) (Or.inl ⟨by rfl, ?_⟩) ?_ ?_
      rotate_left; · (intro w'; go_simp; with_reducible rfl)
      rotate_left; · (simp only [Act.put, List.setIfInBounds_toArray, List.set_cons_zero, List.set_cons_succ, i64_w, i32_w]; rfl)
      refine pure_ (i := 3) (N := some 79) (v := ?_) (a' := ?_) #[true, true, true, true, false, false, false, false, false, false, false, false, false, false, false, false] rfl rfl (by kernel_rfl) (fun _ _ _ h => h) (Or.inl ⟨by rfl, ?_⟩) ?_ ?_
      rotate_left; · (intro w'; go_simp; with_reducible rfl)
      rotate_left; · (simp only [Act.put, List.setIfInBounds_toArray, List.set_cons_zero, List.set_cons_succ, i64_w, i32_w]; rfl)
      refine pure_ (i := 5) (N := some 81) (v := ?_) (a' := ?_) #[true, true, true, true, false, true, false, false, false, false, false, false, false, false, false, false] rfl rfl (by kernel_rfl) (fun _ _ _ h => h) (Or.inl ⟨by rfl, ?_⟩) ?_ ?_
      rotate_left; · (intro w'; go_simp; with_reducible rfl)
      rotate_left; · (simp only [Act.put, List.setIfInBounds_toArray, List.set_cons_zero, List.set_cons_succ, i64_w, i32_w]; rfl)
      refine pure_ (i := 6) (N := some 82) (v := ?_) (a' := ?_) #[true, true, true, true, false, true, true, false, false, false, false, false, false, false, false, false] rfl rfl (by kernel_rfl) (fun _ _ _ h => h) (Or.inl ⟨by rfl, ?_⟩) ?_ ?_
      rotate_left; · (intro w'; go_simp; with_reducible rfl)
      rotate_left; · (simp only [Act.put, List.setIfInBounds_toArray, List.set_cons_zero, List.set_cons_succ, i64_w, i32_w]; rfl)
      refine pure_ (i := 7) (N := some 83) (v := ?_) (a' := ?_) #[true, true, true, true, false, true, true, true, false, false, false, false, false, false, false, false] rfl rfl (by kernel_rfl) (fun _ _ _ h => h) (Or.inl ⟨by rfl, ?_⟩) ?_ ?_
      rotate_left; · (intro w'; go_simp; with_reducible rfl)
      rotate_left; · (simp only [Act.put, List.setIfInBounds_toArray, List.set_cons_zero, List.set_cons_succ, i64_w, i32_w]; rfl)
      refine pure_ (i := 9) (N := some 85) (v := ?_) (a' := ?_) #[true, true, true, true, false, true, true, true, false, true, false, false, false, false, false, false] rfl rfl (by kernel_rfl) (fun _ _ _ h => h) (Or.inl ⟨by rfl, ?_⟩) ?_ ?_
      rotate_left; · (intro w'; go_simp; with_reducible rfl)
      rotate_left; · (simp only [Act.put, List.setIfInBounds_toArray, List.set_cons_zero, List.set_cons_succ, i64_w, i32_w]; rfl)
      refine take_ (i := 4) (N := some 80) (v := ?_) (a' := ?_) #[true, true, true, true, true, true, true, true, false, true, false, false, false, false, false, false] rfl rfl (by kernel_rfl) (fun _ _ _ h => h) (Or.inl ⟨by rfl, ?_⟩) hHeld ?_ ?_
      rotate_left; · (rintro w' ⟨s0, s1⟩; go_simp; with_reducible rfl)
      rotate_left; · (simp only [Act.put, List.setIfInBounds_toArray, List.set_cons_zero, List.set_cons_succ, i64_w, i32_w]; rfl)
      refine take_ (i := 8) (N := some 84) (v := ?_) (a' := ?_) #[true, true, true, true, true, true, true, true, true, true, false, false, false, false, false, false] rfl rfl (by kernel_rfl) (fun _ _ _ h => h) (Or.inl ⟨by rfl, ?_⟩) hHeld ?_ ?_
      rotate_left; · (rintro w' ⟨s0, s1⟩; go_simp; with_reducible rfl)
      rotate_left; · (simp only [Act.put, List.setIfInBounds_toArray, List.set_cons_zero, List.set_cons_succ, i64_w, i32_w]; rfl)
      refine pure_ (i := 10) (N := some 86) (v := ?_) (a' := ?_) #[true, true, true, true, true, true, true, true, true, true, true, false, false, false, false, false] rfl rfl (by kernel_rfl) (fun _ _ _ h => h) (Or.inl ⟨by rfl, ?_⟩) ?_ ?_
      rotate_left; · (intro w'; go_simp; with_reducible rfl)
      rotate_left; · (simp only [Act.put, List.setIfInBounds_toArray, List.set_cons_zero, List.set_cons_succ, i64_w, i32_w]; rfl)
      refine one_ (i := 11) (N := some 87) #[true, true, true, true, true, true, true, true, true, true, true, true, false, false, false, false] rfl rfl (by kernel_rfl) (by decide) (fun K hK => ?_)
      refine value_ (w1 := ?_) (v := ?_) (by rfl) rfl ?_ ?_
      rotate_left 2
      ·
       go_simp
       constructor
       · rfl
       · rfl
      have HC3' := Aside0.mk (HC3.out.alloc (.cells #[.int .i64 (S.many : Int), .slice Ao O.length co] 68))
      refine hK.out _ _ ⟨(blk_cell HC3'.out.tab 0).trans rfl, (blk_cell HC3'.out.tab 2).trans rfl⟩ (fun hHeld => ?_)
      clear hK K
      refine norm_ (a' := ?_) ?_ ?_
      rotate_left; · (show Act.put _ (some 87) _ = _; simp only [Act.put, List.setIfInBounds_toArray, List.set_cons_zero, List.set_cons_succ, i64_w, i32_w]; rfl)
      refine one_ (i := 12) (N := some 88) #[true, true, true, true, true, true, true, true, true, true, true, true, true, false, false, false] rfl rfl (by kernel_rfl) (by decide) (fun K hK => ?_)
      refine Kd.R_append_step k68 (w0 := w0) (W := x1) w0.heap.size (by rfl) (.tmp 80) (.tmp 87) 49 68 (.agg #[(.int .i64 0), (.slice none 0 0)]) 32 rfl Tryd.underlying49 info68 rfl (by decide) (by omega) (.slice Au S.gs.length cu) S.gs (⟨S.many, O⟩ : S68) [.int .i64 (S.many : Int), .slice Ao O.length co] (fun k_ => some k_ ≠ (Value.slice Ai S.ids.length ci).ownBlock) (fun k_ => some k_ ≠ (Value.slice Ai S.ids.length ci).ownBlock ∧ some k_ ≠ (Value.slice Au S.gs.length cu).ownBlock) rfl rfl ?aP (fun _ hk => hk) ?aF ?aO ?aB ?aS ?aL ?_
      (case aP => exact k68_mkM _ _ _ (⟨S.many, O⟩ : S68) (Kd.R_mono (Kd.R_lower HO3.out HL1.out) (fun _ hk => ⟨hk.1.2, hk.2⟩)))
      (case aB => exact HC3.out.below)
      (case aF => exact HC3.out.ids_lt)
      (case aO => exact HC3.out.gsR)
      (case aS => exact HC3.out.below.size)
      (case aL => omega)
      intro v' x4 ho hb hg hat2
      rw [← HG2.out] at ho
      have HC4 := Aside0.mk (HC3.out.gsApp hb hg ho)
      have HM4 := Aside0.mk (HM3.out.grown HC3.out.gsR hg)
      clear ho hb hg hat2 HC3 HC3' HO3 HM3
      obtain ⟨Bu, du, rfl⟩ := Kd.R_slice HC4.out.gsR
      refine hK.out _ _ ⟨(blk_cell HC4.out.tab 0).trans rfl, (blk_cell HC4.out.tab 2).trans rfl⟩ (fun hHeld => ?_)
      clear hK K
      refine norm_ (a' := ?_) ?_ ?_
      rotate_left; · (show Act.put _ (some 88) _ = _; simp only [Act.put, List.setIfInBounds_toArray, List.set_cons_zero, List.set_cons_succ, i64_w, i32_w]; rfl)
      refine pure_ (i := 13) (N := some 89) (v := ?_) (a' := ?_) #[true, true, true, true, true, true, true, true, true, true, true, true, true, true, false, false] rfl rfl (by kernel_rfl) (fun _ _ _ h => h) (Or.inl ⟨by rfl, ?_⟩) ?_ ?_
      rotate_left; · (intro w'; go_simp; with_reducible rfl)
      rotate_left; · (simp only [Act.put, List.setIfInBounds_toArray, List.set_cons_zero, List.set_cons_succ, i64_w, i32_w]; rfl)
      refine pure_ (i := 14) (N := some 90) (v := ?_) (a' := ?_) #[true, true, true, true, true, true, true, true, true, true, true, true, true, true, true, false] rfl rfl (by kernel_rfl) (fun _ _ _ h => h) (Or.inl ⟨by rfl, ?_⟩) ?_ ?_
      rotate_left; · (intro w'; go_simp; with_reducible rfl)
      rotate_left; · (simp only [Act.put, List.setIfInBounds_toArray, List.set_cons_zero, List.set_cons_succ, i64_w, i32_w]; rfl)
      refine last_ (i := 15) (N := none) #[true, true, true, true, true, true, true, true, true, true, true, true, true, true, true, true] rfl rfl (by kernel_rfl) (by decide) (fun K hK => ?_)
      have hs : x4.cell? ⟨gp, 0, none⟩ = some (.slice Au S.gs.length cu) := (blk_cell HC4.out.tab 0).trans rfl
      have hf := blk_frozen HC4.out.tab 0
      refine skip_ (w1 := ?_) (by rfl) rfl ?_ ?_
      rotate_left
      ·
       go_simp
       rfl
      refine hK.out _ _ ?_
      clear hK K
      refine done_ (by kernel_rfl) ?_
      have HC5 := Aside0.mk (HC4.out.setGs (.slice Bu gs'.length du))
      have HM5 := Aside0.mk (HM4.out.far HC4.out.tab 0 (.slice Bu gs'.length du))
      clear hs hf HC4 HM4 hHeld
      have c2 : (x4.setCell ⟨gp, 0, none⟩ (.slice Bu gs'.length du)).cell? ⟨gp, 2, none⟩ = some (.int .i64 (S.many : Int)) := (blk_cell HC5.out.tab 2).trans rfl
      have f2 := blk_frozen HC5.out.tab 2
      go_wp2
      have HC6 := Aside0.mk (show Core w0 w gp bm (.slice Bu gs'.length du) (((S.many + O.length : Nat) : Int)) (.slice Bu gs'.length du) (gs') (Value.slice Ai S.ids.length ci) (S.ids) ((x4.setCell ⟨gp, 0, none⟩ (.slice Bu gs'.length du)).setCell ⟨gp, 2, none⟩ (.int .i64 ((S.many : Int) + (O.length : Int)))) by rw [Int.natCast_add]; exact HC5.out.setMany _)
      have HM6 := Aside0.mk (HM5.out.far HC5.out.tab 2 (.int .i64 ((S.many : Int) + (O.length : Int))))
      have HP := Aside0.mk (show (S.gs.length : Int) = ((place O S : Nat) : Int) by rw [HPL.out])
      clear c2 f2 HC5 HM5 HPL
      have idx0 : (0 : Int) ≤ (S.gs.length : Int) := by have := HP.out; omega
      have idx1 : (S.gs.length : Int) < (gs'.length : Int) := by have h1 := HP.out; have h2 := place_lt O S; rw [HGS.out] at h2; omega
      obtain ⟨f, hf⟩ : ∃ f, f = (rd_T68 gs' (S.gs.length : Int)).f0 := ⟨_, rfl⟩
      have HFE := Aside0.mk hf
      have fb : 0 ≤ f ∧ f ≤ 2097152 := by
       have h := HN.out.next.first (rd_T68 gs' (place O S)) (by
        have hm := mem_T68 gs' (place O S) (by have h2 := place_lt O S; rw [HGS.out] at h2; exact h2)
        rw [step_eq, ← HOE.out]
        show _ ∈ gsOf O S
        rw [HGS.out]
        exact hm)
       rw [hf, HP.out]
       exact h
      obtain ⟨fb0, fb1⟩ := fb
      clear hf
      go_loopw [8, 102] (fun v8 v102 wr => ∃ (q : Nat), q ≤ O.length ∧ v102 = .int .i64 q ∧ Aside0 (Core w0 w gp bm (.slice Bu gs'.length du) ((((S.many + O.length) : Nat) : Int)) (.slice Bu gs'.length du) (gs') (v8) (S.ids ++ fam f q) wr) ∧ Aside0 (Mp bm gs' wr)) (fun _ v102 _ => O.length - (intOf v102).toNat)
      case atStart => exact ⟨0, Nat.zero_le _, rfl, ⟨by have h := HC6.out; simpa [fam] using h⟩, HM6⟩
      case round =>
       clear HC6 HM6
       obtain ⟨q, hq, rfl, HC, HM⟩ := hrel
       obtain ⟨wx, rfl⟩ : ∃ wx : World, wx = wr := ⟨_, rfl⟩
       obtain ⟨Av, cv, ev⟩ := Kd.R_slice HC.out.idsR
       rw [show (S.ids ++ fam f q).length = S.ids.length + q from by rw [List.length_append, fam_len]] at ev
       subst ev
       by_cases hlq : q < O.length
       ·
        have q0 : (0 : Int) ≤ (q : Int) := Int.natCast_nonneg _
        obtain ⟨ad, A1, c1', eA, hx, -⟩ := at_T68 (R_C HC.out.gsR).2 (S.gs.length : Int) idx0 idx1
        cases eA
        rw [← HFE.out, Int.toNat_natCast] at hx
        have ct : wx.cell? ⟨gp, 0, none⟩ = some (.slice (some ad) gs'.length du) := (blk_cell HC.out.tab 0).trans rfl
        go_wp2_with (first | ((with_reducible refine gate_builtin (b := .append) (xs := #[.tmp 105, .tmp 116]) rfl ?_); at_builtin; refine Kd.R_append (Kd.int .i64) (w0 := wx) w.heap.size ?aA (.tmp 105) (.tmp 116) 35 3 (.int .i64 0) 8 ?aC Tryd.underlying35 info3 rfl (by decide) (by omega) (.slice Av (S.ids.length + q) cv) (S.ids ++ fam f q) (f + ↑q) [.int .i64 (f + ↑q)] (fun _ => True) (fun _ => False) ?aE ?aG ?aP (fun _ hk => hk.elim) ?aF ?aO ?aB ?aS ?aL ?_; (case aA => rfl); (case aC => rfl); (case aE => rfl); (case aG => rfl); (case aP => exact rfl); (case aB => exact Below.refl _ _); (case aF => exact (fun _ _ => trivial)); (case aO => exact HC.out.idsR); (case aS => exact HC.out.size); (case aL => have := HE.out; rw [List.length_append, fam_len]; omega); intro v' w3 ho hb hg hat; have HC3 := Aside0.mk (HC.out.idsApp hg hat ho); have HM3 := Aside0.mk (HM.out.grown HC.out.idsR hg); clear ho hb hg hat HC HM))
        go_roundw
        case rel => exact ⟨q + 1, by omega, by go_num, ⟨by rw [fam_snoc, ← List.append_assoc]; exact HC3.out⟩, HM3⟩
        case measure => simp [intOf]; omega
       ·
        skip
        obtain rfl : q = O.length := by omega
        have HST := Aside0.mk (show stepSt S (rd_T34 l ↑i) = ⟨gs', (S.many + O.length), S.ids ++ fam f O.length⟩ by rw [step_eq, ← HOE.out, HGS.out, HMN.out, HFE.out, HP.out])
        go_wp2
        go_roundw
        case rel => exact ⟨i + 1, stepSt S (rd_T34 l ↑i), .slice Bu gs'.length du, by omega, by go_num, ⟨by rw [addAll_step _ _ _ hlt, ← HS.out]⟩, ⟨by rw [HST.out]; exact HC.out⟩, ⟨by rw [HST.out]; exact HM.out⟩⟩
        case measure => simp [intOf]; omega
  ·
   skip
   obtain rfl : i = l.length := by omega
   have HFIN := Aside0.mk (show S = addAll ⟨gs0, many0, []⟩ l by have h := HS.out; rw [List.take_of_length_le (Nat.le_refl _)] at h; exact h)
   go_wp2
   go_ret2
   refine ⟨u, _, rfl, ?_, ?_⟩
   · rw [← HFIN.out]; exact HC.out
   · rw [← HFIN.out]; exact HM.out
end Go.Proofs.YtbobgajkboanfaaDoor.D4
