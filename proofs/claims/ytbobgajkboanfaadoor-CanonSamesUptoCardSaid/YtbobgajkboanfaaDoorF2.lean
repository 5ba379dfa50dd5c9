/- The walk of the reference's (*Table).one: the first id of a group. -/
import Derived.Test.YtbobgajkboanfaaDoorF1
namespace Go.Proofs.YtbobgajkboanfaaDoor.F2
open Go.RowKit Go.Proofs.YtbobgajkboanfaaDoorW.PrintWords Go.Proofs.YtbobgajkboanfaaDoorW.PrintLast Go.Proofs.YtbobgajkboanfaaDoor.PCanonSames
open A1 A2 A3 B0 B1 B2 B3 B4 C1 C2 C3 D1 D2 D3 D4 E1 E2 E3 E4 F1
set_option linter.unusedVariables false
set_option linter.unusedSimpArgs false

set_option maxHeartbeats 16000000 in
set_option maxRecDepth 100000 in
theorem refone (g : S34) (A0 : Option Addr) (c0 : Nat) (S : St) (Ai : Option Addr) (ci : Nat) (u : Value) (tp : Nat) (w0 w W : World)
 (hC : RCore w0 w tp u S.many u S.gs (.slice Ai S.ids.length ci) S.ids W) (hG : k41.C W A0 g.f0.length g.f0) (hci : S.ids.length ≤ ci) (hN : D3.Next S g) (hsg : SmallGs S.gs) :
 Calls Tryd.prog 21 #[.pointer (some ⟨tp, 0, none⟩), .agg #[.slice A0 g.f0.length c0, .bool g.f1], .slice Ai S.ids.length ci] W fun e w' => ∃ u', e = .returned (.int .i64 (rd_T68 (gsOf (own S.ids g) S) (place (own S.ids g) S)).f0) ∧
  RCore w0 w tp u' ((manyOf (own S.ids g) S : Nat) : Int) u' (gsOf (own S.ids g) S) (.slice Ai S.ids.length ci) S.ids w' := by
 obtain ⟨K, hK⟩ : ∃ K : Nat, 4194320 < K := ⟨4194321, by omega⟩
 have HK := Aside0.mk hK
 have HC := Aside0.mk hC
 have HG := Aside0.mk hG
 have HCI := Aside0.mk hci
 have HN := Aside0.mk hN
 have HSG := Aside0.mk hsg
 have il : S.ids.length + g.f0.length ≤ 1048576 := hN.idl
 have HIC := Aside0.mk (R_C hC.idsR).2
 clear hK hC hG hci hN hsg
 go_enter Tryd.func21, Tryd.ntmps21
 go_wp2
 go_loopw [7, 8] (fun v7 v8 wr => ∃ (q : Nat), q ≤ g.f0.length ∧ v8 = .int .i64 q ∧ Aside0 (Below W.heap.size W wr) ∧ Aside0 (wr.heap[W.heap.size]? = some (.cells #[.slice A0 g.f0.length c0, .bool g.f1] 34)) ∧ Aside0 (k41.R 41 wr W.heap.size (fun _ => True) v7 ((g.f0.take q).map (mapS S.ids)))) (fun _ v8 _ => g.f0.length - (intOf v8).toNat)
 case atStart => exact ⟨0, Nat.zero_le _, rfl, ⟨below_alloc (Below.refl _ _) _⟩, ⟨blk_new W _⟩, ⟨Kd.R_nil _ _ _ _ _⟩⟩
 case round =>
  obtain ⟨q, hq, rfl, HB, HX, HO⟩ := hrel
  obtain ⟨wq, rfl⟩ : ∃ wq : World, wq = wr := ⟨_, rfl⟩
  obtain ⟨Ao, co, ev⟩ := Kd.R_slice HO.out
  rw [show ((g.f0.take q).map (mapS S.ids)).length = q from by rw [List.length_map, List.length_take]; omega] at ev
  subst ev
  have g0 : wq.cell? ⟨W.heap.size, 0, none⟩ = some (.slice A0 g.f0.length c0) := (blk_cell HX.out 0).trans rfl
  by_cases hlq : q < g.f0.length
  ·
   have q0 : (0 : Int) ≤ (q : Int) := Int.natCast_nonneg _
   have q1 : (q : Int) < (g.f0.length : Int) := by omega
   obtain ⟨ad3, A1, k1, A3, k3, A4, k4, A5, k5, eA, hx0, hx1, hx2, hx3, hx4, hx5, hl1, hc1, hl3, hc3, hl4, hc4, hl5, hc5⟩ := at_T41 HG.out (q : Int) q0 q1
   cases eA
   have HC1 := Aside0.mk (Kd.C_below hc1 HB.out)
   have HL1 := Aside0.mk hl1
   have HC3 := Aside0.mk (Kd.C_below hc3 HB.out)
   have HL3 := Aside0.mk hl3
   have HC4 := Aside0.mk (Kd.C_below hc4 HB.out)
   have HL4 := Aside0.mk hl4
   have HC5 := Aside0.mk (Kd.C_below hc5 HB.out)
   have HL5 := Aside0.mk hl5
   clear hc1 hc3 hc4 hc5 hl1 hl3 hl4 hl5
   replace hx0 := pw_cell_below HB.out hx0
   replace hx1 := pw_cell_below HB.out hx1
   replace hx2 := pw_cell_below HB.out hx2
   replace hx3 := pw_cell_below HB.out hx3
   replace hx4 := pw_cell_below HB.out hx4
   replace hx5 := pw_cell_below HB.out hx5
   rw [Int.toNat_natCast] at hx0 hx1 hx2 hx3 hx4 hx5
   have HT := Aside0.mk (mem_T41 g.f0 q hlq)
   have HI1 := Aside0.mk (Kd.C_below HIC.out HB.out)
   have HSUB := Aside0.mk (sub_f (ids := S.ids) (en := ((S.ids.length + g.f0.length : Nat) : Int)) K (rd_T41 g.f0 ↑q) (by omega) (by omega) (HN.out.oks _ HT.out) (HN.out.sml _ HT.out) (by have := HK.out; omega))
   go_wp2_with (first | (go_at_call 30; go_loud (refine (ratchetref06_sub.calls K (rd_T41 g.f0 ↑q).f0 A1 k1 (rd_T41 g.f0 ↑q).f1 (rd_T41 g.f0 ↑q).f2.f0 A3 k3 (rd_T41 g.f0 ↑q).f2.f1 A4 k4 (rd_T41 g.f0 ↑q).f2.f2 A5 k5 (rd_T41 g.f0 ↑q).f2.f3 Ai ci S.ids (S.ids.length : Int) _ _ _ _ _ _ _ HC1.out HL1.out HC3.out HL3.out HC4.out HL4.out HC5.out HL5.out HI1.out HCI.out HSUB.out).mono ?_); rintro e w2 ⟨v1, v3, v4, v5, rfl, h1, h3, h4, h5, hb2⟩; refine Hid.out ?_))
   refine Lib.hid ?_
   have HM2 := Aside0.mk (k41_mkM w2 wq.heap.size (fun _ => True) (mapS S.ids (rd_T41 g.f0 ↑q)) h1 (Kd.R_mono h3 (fun _ _ => trivial)) (Kd.R_mono h4 (fun _ _ => trivial)) h5)
   have HO2 := Aside0.mk (Kd.R_below HO.out hb2)
   have HB2 := Aside0.mk (below_then HB.out HB.out.size hb2)
   have HX2 := Aside0.mk (blk_below HX.out hb2)
   clear h1 h3 h4 h5 hb2 HC1 HC3 HC4 HC5 HL1 HL3 HL4 HL5 hx0 hx1 hx2 hx3 hx4 hx5 g0 HI1 HSUB
   go_wp2_with (first | ((with_reducible refine gate_builtin (b := .append) (xs := #[.tmp 18, .tmp 28]) rfl ?_); at_builtin; refine Kd.R_append k41 (w0 := W) W.heap.size ?aA (.tmp 18) (.tmp 28) 32 41 (.agg #[(.bool false), (.slice none 0 0), (.int .i64 0), (.slice none 0 0), (.slice none 0 0), (.slice none 0 0)]) 112 ?aC Tryd.underlying32 info41 rfl (by decide) (by omega) (.slice Ao q co) ((g.f0.take q).map (mapS S.ids)) (mapS S.ids (rd_T41 g.f0 ↑q)) [.bool (rd_T41 g.f0 ↑q).f0, v1, .int .i64 (rd_T41 g.f0 ↑q).f2.f0, v3, v4, v5] (fun _ => True) (fun k_ => True ∧ some k_ ≠ (Value.slice Ao q co).ownBlock) ?aE ?aG ?aP (fun _ hk => hk) ?aF ?aO ?aB ?aS ?aL ?_; (case aA => rfl); (case aC => rfl); (case aE => rfl); (case aG => rfl); (case aP => exact k41.M_lower HB.out.size (Kd.M_new HM2.out (Kd.R_own HO.out).choose_spec)); (case aB => exact HB2.out); (case aF => exact (fun _ _ => trivial)); (case aO => exact HO2.out); (case aS => exact HB2.out.size); (case aL => have := List.length_take_le q g.f0; rw [List.length_map]; omega); intro v' w3 ho hb hg hat; have HX3 := Aside0.mk (blk_grown HX2.out hg (Kd.R_ne HO2.out HX2.out (by decide))); have HO3 := Aside0.mk ho; have HB3 := Aside0.mk hb; clear ho hb hg hat HM2 HO2 HB2 HX2))
   go_roundw
   case rel => exact ⟨q + 1, by omega, by go_num, HB3, HX3, ⟨by rw [take_T41 _ _ hlq, List.map_append]; exact HO3.out⟩⟩
   case measure => simp [intOf]; omega
  ·
   skip
   have HE := Aside0.mk (own_len S.ids g)
   obtain ⟨O, hO⟩ : ∃ O, O = own S.ids g := ⟨_, rfl⟩
   have HOE := Aside0.mk hO
   rw [← hO] at HE
   have ol : O.length ≤ 1048576 := by have := HE.out; omega
   obtain rfl : q = O.length := by have := HE.out; omega
   replace HO := Aside0.mk (show k41.R 41 wq W.heap.size (fun _ => True) (.slice Ao O.length co) O by have h := HO.out; rw [HE.out, List.take_of_length_le (Nat.le_refl _)] at h; rw [HE.out, HOE.out]; exact h)
   have oe : ¬ ((O.length : Int) < (g.f0.length : Int)) := by have := HE.out; omega
   clear hO hq hlq
   have HC2 := Aside0.mk (HC.out.same HB.out)
   have HCO := Aside0.mk (R_C HO.out).2
   have HCC := Aside0.mk (show O.length ≤ co by obtain ⟨_, _, e1, hl, _⟩ := Kd.R_reads HO.out; injection e1 with _ _ e3; omega)
   have HO2 := Aside0.mk (Kd.R_new (Kd.R_new HO.out (Kd.R_own HC.out.idsR).choose_spec) (Kd.R_own HC.out.gsR).choose_spec)
   have HW0 := Aside0.mk HC.out.below.size
   clear HC HB HX HO HIC HG
   obtain ⟨Au, cu, eu⟩ := Kd.R_slice HC2.out.gsR
   rw [List.length_map] at eu
   subst eu
   have LG : S.gs.length ≤ 2097152 := HN.out.good.gsl
   have LM : S.many ≤ 2097152 := HN.out.good.many
   have f0 : wq.cell? ⟨tp, 0, none⟩ = some (.slice Au S.gs.length cu) := (blk_cell HC2.out.tab 0).trans rfl
   go_wp2
   clear g0
   go_loopw [9] (fun v9 wr => ∃ (i : Nat), i ≤ S.gs.length ∧ v9 = .int .i64 i ∧ Aside0 (Below wq.heap.size wq wr) ∧ Aside0 ((S.gs.take i).findIdx? (D1.sameKey O) = none)) (fun v9 _ => S.gs.length - (intOf v9).toNat)
   case atStart => exact ⟨0, Nat.zero_le _, rfl, ⟨Below.refl _ _⟩, ⟨rfl⟩⟩
   case round =>
    obtain ⟨i, hi, rfl, HB, HF⟩ := hrel
    obtain ⟨wx, rfl⟩ : ∃ wx : World, wx = wr := ⟨_, rfl⟩
    replace f0 := pw_cell_below HB.out f0
    by_cases hlt : i < S.gs.length
    ·
     have i0 : (0 : Int) ≤ (i : Int) := Int.natCast_nonneg _
     have i1 : (i : Int) < (S.gs.length : Int) := by omega
     have HCG := Aside0.mk (R_C HC2.out.gsR).2
     rw [List.length_map] at HCG
     obtain ⟨ad, A1, c1, eA, hy0, hy1, hl, hc⟩ := at_T85 HCG.out (i : Int) i0 i1
     rw [rd_conv _ _ hlt] at hy0 hy1 hl hc
     cases eA
     have HY := Aside0.mk (Kd.C_below hc HB.out)
     have HYL := Aside0.mk hl
     clear hc hl HCG
     replace hy0 := pw_cell_below HB.out hy0
     replace hy1 := pw_cell_below HB.out hy1
     rw [Int.toNat_natCast] at hy0 hy1
     obtain ⟨x, hx⟩ : ∃ x, x = rd_T68 S.gs ↑i := ⟨_, rfl⟩
     rw [← hx] at hy0 hy1 HY HYL
     have HXE := Aside0.mk hx
     have HSX := Aside0.mk (HSG.out x (by rw [hx]; exact mem_T68 _ _ hlt))
     have hy0' : wx.cell? (ad.add (i * 2)) = some (.slice A1 x.f1.length c1) := hy0
     have hy1' : wx.cell? ⟨(ad.add (i * 2)).block, (ad.add (i * 2)).off + 1, none⟩ = some (.int .i64 x.f0) := hy1
     clear hx hy0 hy1
     have HGR := Aside0.mk (groups_f K x.f1 O HSX.out.1 HSX.out.2 HK.out)
     cases hkk : (keyB x.f1 == keyB O) with
     | true =>
      go_wp2_with (go_at_call 31; go_loud (refine (ratchetref06_groups.calls K A1 c1 x.f1 Ao co O _ _ HY.out HYL.out (Kd.C_below HCO.out HB.out) HCC.out HGR.out).mono ?_); rintro e w3 ⟨rfl, hb3⟩; rw [hkk]; refine Hid.out ?_)
      refine Lib.hid ?_
      replace HB := Aside0.mk (below_then HB.out HB.out.size hb3)
      replace f0 := pw_cell_below hb3 f0
      have hy2 := pw_cell_below hb3 hy1'
      have HFK := Aside0.mk (find_some_step hlt HF.out (by rw [← HXE.out]; exact hkk))
      clear hb3 hy0' hy1' hkk HGR HY HYL
      go_wp2
      go_ret
      obtain ⟨e1, e2, e3⟩ := findK_place HFK.out
      rw [← HOE.out, e1, e2, e3]
      refine ⟨_, by rw [← HXE.out]; rfl, HC2.out.same HB.out⟩
     | false =>
      go_wp2_with (go_at_call 31; go_loud (refine (ratchetref06_groups.calls K A1 c1 x.f1 Ao co O _ _ HY.out HYL.out (Kd.C_below HCO.out HB.out) HCC.out HGR.out).mono ?_); rintro e w3 ⟨rfl, hb3⟩; rw [hkk]; refine Hid.out ?_)
      refine Lib.hid ?_
      replace HB := Aside0.mk (below_then HB.out HB.out.size hb3)
      have HF2 := Aside0.mk (find_none_step hlt HF.out (by rw [← HXE.out]; exact hkk))
      clear hb3 hy0' hy1' hkk HGR HY HYL
      go_wp2
      go_roundw
      case rel => exact ⟨i + 1, by omega, by go_num, HB, HF2⟩
      case measure => simp [intOf]; omega
    ·
     skip
     have HFN := Aside0.mk (show findK O S.gs = none by have h := HF.out; rw [List.take_of_length_le (by omega)] at h; exact h)
     have HC3 := Aside0.mk (HC2.out.same HB.out)
     have HO3 := Aside0.mk (Kd.R_below HO2.out HB.out)
     have f1 : wx.cell? ⟨tp, 1, none⟩ = some (.int .i64 (S.many : Int)) := (blk_cell HC3.out.tab 1).trans rfl
     have z0 := blk_frozen HC3.out.tab 0
     obtain ⟨gs', hgs'⟩ : ∃ x, x = S.gs ++ [(⟨S.many, O⟩ : S68)] := ⟨_, rfl⟩
     have HG2 := Aside0.mk hgs'
     clear hgs' HC2 HO2 HCO HCC HF
     go_wp2_with (first | ((with_reducible refine gate_builtin (b := .append) (xs := #[.tmp 65, .tmp 69]) rfl ?_); at_builtin; refine Kd.R_append k85 (w0 := w0) w0.heap.size ?aA (.tmp 65) (.tmp 69) 58 85 (.agg #[(.slice none 0 0), (.int .i64 0)]) 32 ?aC Tryd.underlying58 info85 rfl (by decide) (by omega) (Value.slice Au S.gs.length cu) (S.gs.map conv) (conv ⟨S.many, O⟩) [.slice Ao O.length co, .int .i64 (S.many : Int)] (fun k_ => some k_ ≠ (Value.slice Ai S.ids.length ci).ownBlock) (fun k_ => some k_ ≠ (Value.slice Ai S.ids.length ci).ownBlock ∧ some k_ ≠ (Value.slice Au S.gs.length cu).ownBlock) ?aE ?aG ?aP (fun _ hk => hk) ?aF ?aO ?aB ?aS ?aL ?_; (case aA => rfl); (case aC => rfl); (case aE => rfl); (case aG => rfl); (case aP => exact k85_mkM _ _ _ (conv ⟨S.many, O⟩) (Kd.R_mono (Kd.R_lower HO3.out HW0.out) (fun _ hk => ⟨hk.1.2, hk.2⟩))); (case aB => exact HC3.out.below); (case aF => exact HC3.out.ids_lt); (case aO => exact HC3.out.gsR); (case aS => exact HC3.out.below.size); (case aL => rw [List.length_map]; omega); intro v' w4 ho hb hg hat; rw [show S.gs.map conv ++ [conv ⟨S.many, O⟩] = gs'.map conv by rw [HG2.out, List.map_append]; rfl] at ho; have HC4 := Aside0.mk (HC3.out.gsApp hb hg ho); replace f0 := (show w4.cell? ⟨tp, 0, none⟩ = some (.slice Au S.gs.length cu) from (blk_cell HC4.out.tab 0).trans rfl); replace z0 := blk_frozen HC4.out.tab 0; clear f1 ho hb hg hat HC3 HO3; refine Hid.out ?_))
     refine Lib.hid ?_
     obtain ⟨Bu, du, ev⟩ := Kd.R_slice HC4.out.gsR
     rw [List.length_map] at ev
     subst ev
     have HC5 := Aside0.mk (HC4.out.setGs (.slice Bu gs'.length du))
     have f1 : (w4.setCell ⟨tp, 0, none⟩ (.slice Bu gs'.length du)).cell? ⟨tp, 1, none⟩ = some (.int .i64 (S.many : Int)) := (blk_cell HC5.out.tab 1).trans rfl
     have z1 := blk_frozen HC5.out.tab 1
     go_wp2
     go_ret
     obtain ⟨e1, e2, e3⟩ := findK_none HFN.out
     rw [← HOE.out, e1, e2, e3, ← HG2.out]
     refine ⟨.slice Bu gs'.length du, ?_, ?_⟩
     ·
      rw [show rd_T68 gs' ((S.gs.length : Nat) : Int) = ⟨S.many, O⟩ by rw [HG2.out]; unfold rd_T68; rw [Int.toNat_natCast, List.getD_eq_getElem?_getD]; simp]
      rfl
     · rw [Int.natCast_add]; exact HC5.out.setMany _
end Go.Proofs.YtbobgajkboanfaaDoor.F2
