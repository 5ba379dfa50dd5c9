/- The walk of the reference's (*Table).add. -/
import Derived.Test.YtbobgajkboanfaaDoorF2
namespace Go.Proofs.YtbobgajkboanfaaDoor.F3
open Go.RowKit Go.Proofs.YtbobgajkboanfaaDoorW.PrintWords Go.Proofs.YtbobgajkboanfaaDoorW.PrintLast Go.Proofs.YtbobgajkboanfaaDoor.PCanonSames
open A1 A2 A3 B0 B1 B2 B3 B4 C1 C2 C3 D1 D2 D3 D4 E1 E2 E3 E4 F1 F2
set_option linter.unusedVariables false
set_option linter.unusedSimpArgs false

theorem smallGs_all {s : St} {l : List S34} (hs : SmallGs s.gs) {k : Nat} (hk : k ≤ l.length) (hn : ∀ i, i < l.length → D3.Next (addAll s (l.take i)) (rd_T34 l i)) : SmallGs (addAll s (l.take k)).gs := by
  induction k with
  | zero => exact hs
  | succ k ih =>
    rw [addAll_step s l k (by omega)]
    exact smallGs_step (ih (by omega)) (hn k (by omega))

set_option maxHeartbeats 16000000 in
set_option maxRecDepth 100000 in
theorem refadd (l : List S34) (A : Option Addr) (c : Nat) (w0 w : World) (tp : Nat) (gs0 : List S68) (many0 : Nat) (B : Nat) (u0 : Value)
    (hr : k34.C w0 A l.length l) (hw : wtG l ≤ 1048576) (hrg : rngL l) (hok : okL 0 l) (hB : GoodT ⟨gs0, many0, []⟩ B) (hBl : B ≤ 1048576) (hs : SmallGs gs0)
    (hc : RCore w0 w tp u0 many0 u0 gs0 (.slice none 0 0) [] w) :
    Calls Tryd.prog 14 #[.pointer (some ⟨tp, 0, none⟩), .slice A l.length c, .int .i64 4611686018427387904] w fun e w' => ∃ u' v, e = .returned (.tuple #[v, .int .i64 (-1)]) ∧
      RCore w0 w tp u' (addAll ⟨gs0, many0, []⟩ l).many u' (addAll ⟨gs0, many0, []⟩ l).gs v (addAll ⟨gs0, many0, []⟩ l).ids w' ∧ SmallGs (addAll ⟨gs0, many0, []⟩ l).gs := by
  have HR := Aside0.mk hr
  have HF := Aside0.mk (fun (i : Nat) (hi : i < l.length) (S : St) (hS : S = addAll ⟨gs0, many0, []⟩ (l.take i)) => facts rfl hw hrg hok hB hBl hi hS)
  have HSM := Aside0.mk (fun (k : Nat) (hk : k ≤ l.length) => smallGs_all (s := ⟨gs0, many0, []⟩) hs hk (fun i hi => facts rfl hw hrg hok hB hBl hi rfl))
  have HC0 := Aside0.mk hc
  have ll : l.length ≤ 1048576 := Nat.le_trans (wtG_len l) hw
  clear hr hw hrg hok hB hBl hc hs
  go_enter Tryd.func14, Tryd.ntmps14
  go_wp2
  go_loopw [8, 9] (fun v8 v9 wr => ∃ (i : Nat) (S : St) (u : Value), i ≤ l.length ∧ v9 = .int .i64 i ∧ Aside0 (S = addAll ⟨gs0, many0, []⟩ (l.take i)) ∧ Aside0 (RCore w0 w tp u S.many u S.gs v8 S.ids wr)) (fun _ v9 _ => l.length - (intOf v9).toNat)
  case atStart => exact ⟨0, ⟨gs0, many0, []⟩, u0, Nat.zero_le _, rfl, ⟨rfl⟩, HC0⟩
  case round =>
    clear HC0
    obtain ⟨i, S, u, hi, rfl, HS, HC⟩ := hrel
    obtain ⟨wo, rfl⟩ : ∃ wo : World, wo = wr := ⟨_, rfl⟩
    obtain ⟨Ai, ci, rfl⟩ := Kd.R_slice HC.out.idsR
    by_cases hlt : i < l.length
    · have i0 : (0 : Int) ≤ (i : Int) := Int.natCast_nonneg _
      have i1 : (i : Int) < (l.length : Int) := by omega
      have HN := Aside0.mk (HF.out i hlt S HS.out)
      have HSG := Aside0.mk (show SmallGs S.gs by rw [HS.out]; exact HSM.out i (by omega))
      have il : S.ids.length + (rd_T34 l ↑i).f0.length ≤ 1048576 := HN.out.idl
      obtain ⟨ad, A0, c0, eA, hx0, hx1, hl0, hc0⟩ := at_T34 HR.out (i : Int) i0 i1
      cases eA
      have HG := Aside0.mk (Kd.C_below hc0 HC.out.below)
      have HX := Aside0.mk hx0
      clear hc0
      replace hx0 := pw_cell_below HC.out.below hx0
      replace hx1 := pw_cell_below HC.out.below hx1
      rw [Int.toNat_natCast] at hx0 hx1
      have HCI := Aside0.mk (show S.ids.length ≤ ci by obtain ⟨_, _, e1, hl, _⟩ := Kd.R_reads HC.out.idsR; injection e1 with _ _ e3; omega)
      obtain ⟨g, hg⟩ : ∃ g, g = (rd_T34 l ↑i) := ⟨_, rfl⟩
      have HGE := Aside0.mk hg
      rw [← hg] at HN HG HX hx0 hx1 hl0 il
      clear hg
      go_wp2_with (first | (go_at_call 21; go_loud (refine (refone g A0 c0 S Ai ci u tp w0 w _ HC.out HG.out HCI.out HN.out HSG.out).mono ?_); rintro e w2 ⟨u', rfl, hc2⟩; refine Hid.out ?_))
      refine Lib.hid ?_
      have HC2 := Aside0.mk hc2
      clear hc2 hx0 hx1 HG HCI HSG
      obtain ⟨O, hO⟩ : ∃ O, O = own S.ids g := ⟨_, rfl⟩
      have HOE := Aside0.mk hO
      have HE := Aside0.mk (show O.length = g.f0.length by rw [hO, own_len])
      rw [← hO] at HC2 ⊢
      clear hO
      obtain ⟨f, hf⟩ : ∃ f, f = (rd_T68 (gsOf O S) (place O S)).f0 := ⟨_, rfl⟩
      have HFE := Aside0.mk hf
      have fb : 0 ≤ f ∧ f ≤ 2097152 := by
        have h := HN.out.next.first (rd_T68 (gsOf O S) (place O S)) (by
          have hm := mem_T68 (gsOf O S) (place O S) (place_lt O S)
          rw [step_eq, ← HOE.out]
          exact hm)
        rw [hf]
        exact h
      obtain ⟨fb0, fb1⟩ := fb
      rw [← hf]
      clear hf
      have mb : manyOf O S ≤ 2097152 := by have h := HN.out.next.many; rw [step_eq, ← HOE.out] at h; exact h
      obtain ⟨gs', hgs⟩ : ∃ x, x = gsOf O S := ⟨_, rfl⟩
      obtain ⟨m', hm⟩ : ∃ x, x = manyOf O S := ⟨_, rfl⟩
      have HGS := Aside0.mk hgs
      have HMN := Aside0.mk hm
      rw [← hgs, ← hm] at HC2
      rw [← hm] at mb
      clear hgs hm
      have m1 : w2.cell? ⟨tp, 1, none⟩ = some (.int .i64 (m' : Int)) := (blk_cell HC2.out.tab 1).trans rfl
      go_wp2
      clear m1
      go_loopw [8, 11] (fun v8 v11 wr => ∃ (q : Nat), q ≤ O.length ∧ v11 = .int .i64 q ∧ Aside0 (RCore w0 w tp u' m' u' gs' v8 (S.ids ++ fam f q) wr)) (fun _ v11 _ => O.length - (intOf v11).toNat)
      case atStart => exact ⟨0, Nat.zero_le _, rfl, ⟨by have h := HC2.out; simpa [fam] using h⟩⟩
      case round =>
        clear HC2 HC
        obtain ⟨q, hq, rfl, HC⟩ := hrel
        obtain ⟨wx, rfl⟩ : ∃ wx : World, wx = wr := ⟨_, rfl⟩
        obtain ⟨Av, cv, ev⟩ := Kd.R_slice HC.out.idsR
        rw [show (S.ids ++ fam f q).length = S.ids.length + q from by rw [List.length_append, fam_len]] at ev
        subst ev
        have hx0 := pw_cell_below HC.out.below HX.out
        rw [Int.toNat_natCast] at hx0
        have he := HE.out
        by_cases hlq : q < O.length
        · have q0 : (0 : Int) ≤ (q : Int) := Int.natCast_nonneg _
          go_wp2_with (first | ((with_reducible refine gate_builtin (b := .append) (xs := #[.tmp 42, .tmp 46]) rfl ?_); at_builtin; refine Kd.R_append (Kd.int .i64) (w0 := wx) w.heap.size ?aA (.tmp 42) (.tmp 46) 35 3 (.int .i64 0) 8 ?aC Tryd.underlying35 info3 rfl (by decide) (by omega) (.slice Av (S.ids.length + q) cv) (S.ids ++ fam f q) (f + ↑q) [.int .i64 (f + ↑q)] (fun _ => True) (fun _ => False) ?aE ?aG ?aP (fun _ hk => hk.elim) ?aF ?aO ?aB ?aS ?aL ?_; (case aA => rfl); (case aC => rfl); (case aE => rfl); (case aG => rfl); (case aP => exact rfl); (case aB => exact Below.refl _ _); (case aF => exact (fun _ _ => trivial)); (case aO => exact HC.out.idsR); (case aS => exact HC.out.size); (case aL => rw [List.length_append, fam_len]; omega); intro v' w3 ho hb hg hat; have HC3 := Aside0.mk (HC.out.idsApp hg hat ho); clear ho hb hg hat HC))
          go_roundw
          case rel => exact ⟨q + 1, by omega, by go_num, ⟨by rw [fam_snoc, ← List.append_assoc]; exact HC3.out⟩⟩
          case measure => simp [intOf]; omega
        · skip
          obtain rfl : q = O.length := by omega
          have HST := Aside0.mk (show stepSt S g = ⟨gs', m', S.ids ++ fam f O.length⟩ by rw [step_eq, ← HOE.out, HGS.out, HMN.out, HFE.out])
          go_wp2
          go_roundw
          case rel => exact ⟨i + 1, stepSt S g, u', by omega, by go_num, ⟨by rw [addAll_step _ _ _ hlt, ← HS.out, HGE.out]⟩, ⟨by rw [HST.out]; exact HC.out⟩⟩
          case measure => simp [intOf]; omega
    · skip
      obtain rfl : i = l.length := by omega
      have HFIN := Aside0.mk (show S = addAll ⟨gs0, many0, []⟩ l by have h := HS.out; rw [List.take_of_length_le (Nat.le_refl _)] at h; exact h)
      have HSF := Aside0.mk (show SmallGs S.gs by rw [HS.out]; exact HSM.out _ (Nat.le_refl _))
      go_wp2
      go_ret2
      refine ⟨u, _, rfl, ?_, ?_⟩
      · rw [← HFIN.out]; exact HC.out
      · rw [← HFIN.out]; exact HSF.out
end Go.Proofs.YtbobgajkboanfaaDoor.F3
