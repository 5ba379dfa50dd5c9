/- The walk of canon.mapped, as parts.add calls it: a type whose numbers are turned by the closure of canon.rolled, in new memory. -/
import Derived.Test.YtbobgajkboanfaaDoorB2
namespace Go.Proofs.YtbobgajkboanfaaDoor.B3
open Go.RowKit Go.Proofs.YtbobgajkboanfaaDoorW.PrintWords Go.Proofs.YtbobgajkboanfaaDoorW.PrintLast Go.Proofs.YtbobgajkboanfaaDoor.PCanonSames
open A1 A2 A3 B0 B1 B2
set_option linter.unusedVariables false
set_option linter.unusedSimpArgs false

set_option maxHeartbeats 8000000 in
set_option maxRecDepth 100000 in
theorem mapped (s : S41) (A1 A3 A4 A5 : Option Addr) (k1 k3 k4 k5 : Nat) (ids : List Int) (A : Option Addr) (c gi : Nat) (en : Int) (w : World)
 (hr1 : (Kd.int .i64).C w A1 s.f1.length s.f1) (hr3 : k72.C w A3 s.f2.f1.length s.f2.f1) (hr4 : k72.C w A4 s.f2.f2.length s.f2.f2) (hr5 : k75.C w A5 s.f2.f3.length s.f2.f3)
 (m1 : s.f1.length ≤ 1048576) (m3 : s.f2.f1.length ≤ 1048576) (m4 : s.f2.f2.length ≤ 1048576) (m5 : s.f2.f3.length ≤ 1048576)
 (hok : okS en s = true) (hen : en ≤ 1048576) (hgi : w.cell? ⟨gi, 0, none⟩ = some (.slice A ids.length c)) (hc : (Kd.int .i64).C w A ids.length ids) (hb : ids.length ≤ 1048576) :
 Calls Tryd.prog 18 #[.agg #[.bool s.f0, .slice A1 s.f1.length k1, .int .i64 s.f2.f0, .slice A3 s.f2.f1.length k3, .slice A4 s.f2.f2.length k4, .slice A5 s.f2.f3.length k5], .func (.func 23) #[] #[.pointer (some ⟨gi, 0, none⟩)]] w
  fun e w' => ∃ v1 v3 v4 v5, e = .returned (.agg #[.bool s.f0, v1, .int .i64 s.f2.f0, v3, v4, v5]) ∧ k41.M w' w.heap.size (fun _ => True) (mapS ids s) [.bool s.f0, v1, .int .i64 s.f2.f0, v3, v4, v5] ∧ Below w.heap.size w w' := by
 have HR1 := Aside0.mk hr1
 have HR3 := Aside0.mk hr3
 have HR4 := Aside0.mk hr4
 have HR5 := Aside0.mk hr5
 have HGI := Aside0.mk hgi
 have HC := Aside0.mk hc
 have HOK := Aside0.mk (okS_parts hok)
 clear hr1 hr3 hr4 hr5 hgi hc hok
 have hmf : ∀ (fn : Fn) (first cap : Array Value) (w : World), (Instr.makeFunc fn first cap).run Tryd.prog w = .ok (.func fn first cap) w := fun _ _ _ _ => rfl
 go_enter Tryd.func18, Tryd.ntmps18
 go_wp2
 go_loopw [26] (fun v26 wr => ∃ (n0 : Nat) (u0 : Value), n0 ≤ s.f1.length ∧ v26 = .int .i64 n0 ∧ MInv w (.bool s.f0) (.slice A1 s.f1.length k1) (.int .i64 s.f2.f0) (.slice A3 s.f2.f1.length k3) (.slice A4 s.f2.f2.length k4) (.slice A5 s.f2.f3.length k5) (.func (.func 23) #[] #[.pointer (some ⟨gi, 0, none⟩)]) (u0) (.slice none 0 0) (.slice none 0 0) (.slice none 0 0) wr ∧ Kd.R (Kd.int .i64) 3 wr w.heap.size (fun _ => True) u0 ((s.f1.take n0).map (turnI ids))) (fun v26 _ => s.f1.length - (intOf v26).toNat)
 case atStart =>
  have f4 := four w (.cells #[.bool s.f0, .slice A1 s.f1.length k1, .int .i64 s.f2.f0, .slice A3 s.f2.f1.length k3, .slice A4 s.f2.f2.length k4, .slice A5 s.f2.f3.length k5] 41) (.cells #[.func (.func 23) #[] #[.pointer (some ⟨gi, 0, none⟩)]] 62) (.cells #[.bool false, .slice none 0 0, .int .i64 0, .slice none 0 0, .slice none 0 0, .slice none 0 0] 41) (.cells #[.bool s.f0, .slice none 0 0, .int .i64 s.f2.f0, .slice none 0 0, .slice none 0 0, .slice none 0 0] 41)
  exact ⟨0, .slice none 0 0, Nat.zero_le _, rfl, ⟨below_alloc (below_alloc (below_alloc (below_alloc (Below.refl _ _) _) _) _) _, f4.1, f4.2.1, f4.2.2.2, f4.2.2.1⟩, Kd.R_nil _ _ _ _ _⟩
 case round =>
  obtain ⟨n0, u0, hk, rfl, hT, hR⟩ := hrel
  have HT := Aside0.mk hT
  have HR := Aside0.mk hR
  clear hT hR
  by_cases hlt : n0 < s.f1.length
  ·
   have i0 : (0 : Int) ≤ (n0 : Int) := Int.natCast_nonneg _
   have i1 : (n0 : Int) < (s.f1.length : Int) := by omega
   obtain ⟨ad, eA, hx⟩ := Kd.at_int HR1.out (n0 : Int) i0 i1
   cases eA
   replace hx := pw_cell_below HT.out.below hx
   rw [Int.toNat_natCast] at hx
   have HOX := Aside0.mk (okH_le hen (all_rd HOK.out.1 hlt))
   go_wp2
   have HT1 := Aside0.mk HT.out.drew
   have HR1' := Aside0.mk (Kd.R_drew HR.out)
   clear HT HR
   refine start_ (n := 9) (S := fun w' => w'.cell? ⟨w.heap.size + 1 + 1 + 1, 1, none⟩ = some u0 ∧ w'.cell? ⟨w.heap.size + 1, 0, none⟩ = some (.func (.func 23) #[] #[.pointer (some ⟨gi, 0, none⟩)])) (ds := [8]) #[false, false, false, false, false, false, false, false, false] (by kernel_rfl) rfl rfl ⟨(blk_cell HT1.out.out 1).trans rfl, (blk_cell HT1.out.fun_ 0).trans rfl⟩ (fun hHeld => ?_)
   generalize wr.drew = x1 at HT1 HR1' hHeld ⊢
   refine pure_ (i := 0) (N := some 30) (v := ?_) (a' := ?_) #[true, false, false, false, false, false, false, false, false] rfl rfl (by kernel_rfl) (fun _ _ _ h => h) (Or.inl ⟨by rfl, ?_⟩) ?_ ?_
   rotate_left; · (intro w'; go_simp; with_reducible rfl)
   rotate_left; · (simp only [Act.put, List.setIfInBounds_toArray, List.set_cons_zero, List.set_cons_succ, i64_w, i32_w]; rfl)
   refine pure_ (i := 3) (N := some 33) (v := ?_) (a' := ?_) #[true, false, false, true, false, false, false, false, false] rfl rfl (by kernel_rfl) (fun _ _ _ h => h) (Or.inl ⟨by rfl, ?_⟩) ?_ ?_
   rotate_left; · (intro w'; go_simp; with_reducible rfl)
   rotate_left; · (simp only [Act.put, List.setIfInBounds_toArray, List.set_cons_zero, List.set_cons_succ, i64_w, i32_w]; rfl)
   refine take_ (i := 1) (N := some 31) (v := ?_) (a' := ?_) #[true, true, false, true, false, false, false, false, false] rfl rfl (by kernel_rfl) (fun _ _ _ h => h) (Or.inl ⟨by rfl, ?_⟩) hHeld ?_ ?_
   rotate_left; · (rintro w' ⟨s0, s1⟩; go_simp; with_reducible rfl)
   rotate_left; · (simp only [Act.put, List.setIfInBounds_toArray, List.set_cons_zero, List.set_cons_succ, i64_w, i32_w]; rfl)
   refine take_ (i := 2) (N := some 32) (v := ?_) (a' := ?_) #[true, true, true, true, false, false, false, false, false] rfl rfl (by kernel_rfl) (fun _ _ _ h => h) (Or.inl ⟨by rfl, ?_⟩) hHeld ?_ ?_
   rotate_left; · (rintro w' ⟨s0, s1⟩; go_simp; with_reducible rfl)
   rotate_left; · (simp only [Act.put, List.setIfInBounds_toArray, List.set_cons_zero, List.set_cons_succ, i64_w, i32_w]; rfl)
   refine one_ (i := 4) (N := some 34) #[true, true, true, true, true, false, false, false, false] rfl rfl (by kernel_rfl) (by decide) (fun K hK => ?_)
   refine goesV_ (t := 32) Tryd.func23 (by kernel_rfl) rfl #[.int .i64 (rd s.f1 n0)] #[.int .i64 (rd s.f1 n0), .pointer (some ⟨gi, 0, none⟩)] (by rfl) rfl rfl (by rfl) (by (try simp only [List.map_toArray, List.map_cons, List.map_nil]); first | done | rfl) (by rfl) ?_
   refine (rolled1 (rd s.f1 n0) ids A c gi _ (pw_cell_below HT1.out.below HGI.out) (Kd.C_below HC.out HT1.out.below) hb HOX.out.1 HOX.out.2).mono ?_
   rintro e x2 ⟨rfl, hx2⟩
   refine ⟨_, rfl, ?_⟩
   have HT2 := Aside0.mk (hx2 ▸ HT1.out)
   have HR2 := Aside0.mk (hx2 ▸ HR1'.out)
   clear hx2 HT1 HR1' HOX
   refine hK.out _ _ ⟨(blk_cell HT2.out.out 1).trans rfl, (blk_cell HT2.out.fun_ 0).trans rfl⟩ (fun hHeld => ?_)
   clear hK K
   refine norm_ (a' := ?_) ?_ ?_
   rotate_left; · (show Act.put _ (some 34) _ = _; simp only [Act.put, List.setIfInBounds_toArray, List.set_cons_zero, List.set_cons_succ, i64_w, i32_w]; rfl)
   refine one_ (i := 5) (N := some 35) #[true, true, true, true, true, true, false, false, false] rfl rfl (by kernel_rfl) (by decide) (fun K hK => ?_)
   refine value_ (w1 := ?_) (v := ?_) (by rfl) rfl ?_ ?_
   rotate_left 2
   ·
    go_simp
    constructor
    · rfl
    · rfl
   have HT3 := Aside0.mk (HT2.out.same (below_alloc (Below.refl _ _) (.cells #[.int .i64 (turnI ids (rd s.f1 n0))] 3)))
   refine hK.out _ _ ⟨(blk_cell HT3.out.out 1).trans rfl, (blk_cell HT3.out.fun_ 0).trans rfl⟩ (fun hHeld => ?_)
   clear hK K
   refine norm_ (a' := ?_) ?_ ?_
   rotate_left; · (show Act.put _ (some 35) _ = _; simp only [Act.put, List.setIfInBounds_toArray, List.set_cons_zero, List.set_cons_succ, i64_w, i32_w]; rfl)
   refine one_ (i := 6) (N := some 36) #[true, true, true, true, true, true, true, false, false] rfl rfl (by kernel_rfl) (by decide) (fun K hK => ?_)
   refine Kd.R_append_step (Kd.int .i64) (w0 := x2) w.heap.size (by rfl) (.tmp 31) (.tmp 35) 35 3 (.int .i64 0) 8 rfl Tryd.underlying35 info3 rfl (by decide) (by omega) u0 ((s.f1.take n0).map (turnI ids)) (turnI ids (rd s.f1 n0)) [.int .i64 (turnI ids (rd s.f1 n0))] (fun _ => True) (fun _ => False) rfl rfl ?aP (fun _ hk => hk.elim) ?aF ?aO ?aB ?aS ?aL ?_
   (case aP => exact rfl)
   (case aB => exact Below.refl _ _)
   (case aF => exact (fun _ _ => trivial))
   (case aO => exact HR2.out)
   (case aS => exact HT2.out.below.size)
   (case aL => have := List.length_take_le n0 s.f1; rw [List.length_map]; omega)
   intro v' x4 ho hb' hg hat
   have HT4 := Aside0.mk (HT2.out.appended hb' hg (fun g cs t hc ht => Kd.R_ne HR2.out hc (by rcases ht with rfl | rfl <;> decide)))
   have HR4' := Aside0.mk ho
   clear ho hb' hg hat HT3 HR2
   obtain ⟨Av, cv, ev⟩ := Kd.R_slice HR4'.out
   rw [show (((s.f1.take n0).map (turnI ids)) ++ [turnI ids (rd s.f1 n0)]).length = n0 + 1 from by simp; omega] at ev
   subst ev
   refine hK.out _ _ ⟨(blk_cell HT4.out.out 1).trans rfl, (blk_cell HT4.out.fun_ 0).trans rfl⟩ (fun hHeld => ?_)
   clear hK K
   refine norm_ (a' := ?_) ?_ ?_
   rotate_left; · (show Act.put _ (some 36) _ = _; simp only [Act.put, List.setIfInBounds_toArray, List.set_cons_zero, List.set_cons_succ, i64_w, i32_w]; rfl)
   refine pure_ (i := 7) (N := some 37) (v := ?_) (a' := ?_) #[true, true, true, true, true, true, true, true, false] rfl rfl (by kernel_rfl) (fun _ _ _ h => h) (Or.inl ⟨by rfl, ?_⟩) ?_ ?_
   rotate_left; · (intro w'; go_simp; with_reducible rfl)
   rotate_left; · (simp only [Act.put, List.setIfInBounds_toArray, List.set_cons_zero, List.set_cons_succ, i64_w, i32_w]; rfl)
   refine last_ (i := 8) (N := none) #[true, true, true, true, true, true, true, true, true] rfl rfl (by kernel_rfl) (by decide) (fun K hK => ?_)
   have hs : x4.cell? ⟨w.heap.size + 1 + 1 + 1, 1, none⟩ = some u0 := (blk_cell HT4.out.out 1).trans rfl
   have hf := blk_frozen HT4.out.out 1
   refine skip_ (w1 := ?_) (by rfl) rfl ?_ ?_
   rotate_left
   ·
    go_simp
    rfl
   refine hK.out _ _ ?_
   clear hK K
   refine done_ (by kernel_rfl) ?_
   have HT5 := Aside0.mk (HT4.out.set1 (.slice Av (n0 + 1) cv))
   have HR5' := Aside0.mk (Kd.R_set HR4'.out HT4.out.out (by decide) 1 (.slice Av (n0 + 1) cv))
   clear hs hf HT4 HR4' hHeld hx
   go_wp2
   go_roundw
   case rel => exact ⟨n0 + 1, _, by omega, by go_num, HT5.out, by rw [take_rd _ _ hlt, List.map_append]; exact HR5'.out⟩
   case measure => simp [intOf]; omega
  ·
   obtain ⟨B0, N0, D0, ev⟩ : ∃ B N D, u0 = .slice B N D := by obtain ⟨B, D, e⟩ := Kd.R_slice HR.out; exact ⟨B, _, D, e⟩
   subst ev
   have HE0 := Aside0.mk (show Kd.R (Kd.int .i64) 3 wr w.heap.size (fun _ => True) (.slice B0 N0 D0) (s.f1.map (turnI ids)) by have h := HR.out; rw [List.take_of_length_le (by omega)] at h; exact h)
   clear HR
   have hb2 : wr.cell? ⟨w.heap.size, 3, none⟩ = some (.slice A3 s.f2.f1.length k3) := (blk_cell HT.out.box 3).trans rfl
   go_wp2
   go_loopw [43] (fun v43 wr => ∃ (n1 : Nat) (u1 : Value), n1 ≤ s.f2.f1.length ∧ v43 = .int .i64 n1 ∧ MInv w (.bool s.f0) (.slice A1 s.f1.length k1) (.int .i64 s.f2.f0) (.slice A3 s.f2.f1.length k3) (.slice A4 s.f2.f2.length k4) (.slice A5 s.f2.f3.length k5) (.func (.func 23) #[] #[.pointer (some ⟨gi, 0, none⟩)]) (.slice B0 N0 D0) (u1) (.slice none 0 0) (.slice none 0 0) wr ∧ Kd.R k72 72 wr w.heap.size (fun _ => True) u1 ((s.f2.f1.take n1).map (mapV ids)) ∧ Kd.R (Kd.int .i64) 3 wr w.heap.size (fun k_ => True ∧ some k_ ≠ (u1 : Value).ownBlock) (.slice B0 N0 D0) (s.f1.map (turnI ids))) (fun v43 _ => s.f2.f1.length - (intOf v43).toNat)
   case atStart =>
    exact ⟨0, .slice none 0 0, Nat.zero_le _, rfl, HT.out, Kd.R_nil _ _ _ _ _, Kd.R_apart_nil HE0.out⟩
   case round =>
    clear HT hb2 HE0
    obtain ⟨n1, u1, hk, rfl, hT, hR, hE0⟩ := hrel
    have HT := Aside0.mk hT
    have HR := Aside0.mk hR
    have HE0 := Aside0.mk hE0
    clear hT hR hE0
    by_cases hlt : n1 < s.f2.f1.length
    ·
     have i0 : (0 : Int) ≤ (n1 : Int) := Int.natCast_nonneg _
     have i1 : (n1 : Int) < (s.f2.f1.length : Int) := by omega
     obtain ⟨ad, eA, hx0, hx1, hx2⟩ := at_T72 HR3.out (n1 : Int) i0 i1
     cases eA
     replace hx0 := pw_cell_below HT.out.below hx0
     rw [Int.toNat_natCast] at hx0
     replace hx1 := pw_cell_below HT.out.below hx1
     rw [Int.toNat_natCast] at hx1
     replace hx2 := pw_cell_below HT.out.below hx2
     rw [Int.toNat_natCast] at hx2
     have HOX := Aside0.mk (okV_le hen (all_T72 HOK.out.2.1 hlt))
     go_wp2
     have HNV := Aside0.mk (R_ne_size HR.out)
     have HT1 := Aside0.mk ((HT.out.same (below_alloc (Below.refl _ _) (.cells #[.int .i64 (rd_T72 s.f2.f1 n1).f0, .bool (rd_T72 s.f2.f1 n1).f1, .int .i64 (rd_T72 s.f2.f1 n1).f2] 72))).drew)
     have HR1' := Aside0.mk (Kd.R_drew (Kd.R_alloc HR.out (.cells #[.int .i64 (rd_T72 s.f2.f1 n1).f0, .bool (rd_T72 s.f2.f1 n1).f1, .int .i64 (rd_T72 s.f2.f1 n1).f2] 72)))
     have HX := Aside0.mk (blk_drew (blk_new wr (.cells #[.int .i64 (rd_T72 s.f2.f1 n1).f0, .bool (rd_T72 s.f2.f1 n1).f1, .int .i64 (rd_T72 s.f2.f1 n1).f2] 72)))
     clear HT HR
     have HE0a := Aside0.mk (Kd.R_drew (Kd.R_alloc HE0.out (.cells #[.int .i64 (rd_T72 s.f2.f1 n1).f0, .bool (rd_T72 s.f2.f1 n1).f1, .int .i64 (rd_T72 s.f2.f1 n1).f2] 72)))
     clear HE0
     refine start_ (n := 11) (S := fun w' => w'.cell? ⟨w.heap.size + 1 + 1 + 1, 3, none⟩ = some u1 ∧ w'.cell? ⟨wr.heap.size, 0, none⟩ = some (.int .i64 (rd_T72 s.f2.f1 n1).f0) ∧ w'.cell? ⟨wr.heap.size, 1, none⟩ = some (.bool (rd_T72 s.f2.f1 n1).f1) ∧ w'.cell? ⟨wr.heap.size, 2, none⟩ = some (.int .i64 (rd_T72 s.f2.f1 n1).f2)) (ds := [10]) #[false, false, false, false, false, false, false, false, false, false, false] (by kernel_rfl) rfl rfl ⟨(blk_cell HT1.out.out 3).trans rfl, (blk_cell HX.out 0).trans rfl, (blk_cell HX.out 1).trans rfl, (blk_cell HX.out 2).trans rfl⟩ (fun hHeld => ?_)
     generalize (wr.alloc (.cells #[.int .i64 (rd_T72 s.f2.f1 n1).f0, .bool (rd_T72 s.f2.f1 n1).f1, .int .i64 (rd_T72 s.f2.f1 n1).f2] 72)).drew = x1 at HT1 HR1' HX HE0a hHeld ⊢
     refine pure_ (i := 0) (N := some 47) (v := ?_) (a' := ?_) #[true, false, false, false, false, false, false, false, false, false, false] rfl rfl (by kernel_rfl) (fun _ _ _ h => h) (Or.inl ⟨by rfl, ?_⟩) ?_ ?_
     rotate_left; · (intro w'; go_simp; with_reducible rfl)
     rotate_left; · (simp only [Act.put, List.setIfInBounds_toArray, List.set_cons_zero, List.set_cons_succ, i64_w, i32_w]; rfl)
     refine pure_ (i := 1) (N := some 48) (v := ?_) (a' := ?_) #[true, true, false, false, false, false, false, false, false, false, false] rfl rfl (by kernel_rfl) (fun _ _ _ h => h) (Or.inl ⟨by rfl, ?_⟩) ?_ ?_
     rotate_left; · (intro w'; go_simp; with_reducible rfl)
     rotate_left; · (simp only [Act.put, List.setIfInBounds_toArray, List.set_cons_zero, List.set_cons_succ, i64_w, i32_w]; rfl)
     refine pure_ (i := 3) (N := some 50) (v := ?_) (a' := ?_) #[true, true, false, true, false, false, false, false, false, false, false] rfl rfl (by kernel_rfl) (fun _ _ _ h => h) (Or.inl ⟨by rfl, ?_⟩) ?_ ?_
     rotate_left; · (intro w'; go_simp; with_reducible rfl)
     rotate_left; · (simp only [Act.put, List.setIfInBounds_toArray, List.set_cons_zero, List.set_cons_succ, i64_w, i32_w]; rfl)
     refine take_ (i := 2) (N := some 49) (v := ?_) (a' := ?_) #[true, true, true, true, false, false, false, false, false, false, false] rfl rfl (by kernel_rfl) (fun _ _ _ h => h) (Or.inl ⟨by rfl, ?_⟩) hHeld ?_ ?_
     rotate_left; · (rintro w' ⟨s0, s1, s2, s3⟩; go_simp; with_reducible rfl)
     rotate_left; · (simp only [Act.put, List.setIfInBounds_toArray, List.set_cons_zero, List.set_cons_succ, i64_w, i32_w]; rfl)
     refine take_ (i := 4) (N := some 51) (v := ?_) (a' := ?_) #[true, true, true, true, true, false, false, false, false, false, false] rfl rfl (by kernel_rfl) (fun _ _ _ h => h) (Or.inl ⟨by rfl, ?_⟩) hHeld ?_ ?_
     rotate_left; · (rintro w' ⟨s0, s1, s2, s3⟩; go_simp; with_reducible rfl)
     rotate_left; · (simp only [Act.put, List.setIfInBounds_toArray, List.set_cons_zero, List.set_cons_succ, i64_w, i32_w]; rfl)
     refine one_ (i := 5) (N := some 52) #[true, true, true, true, true, true, false, false, false, false, false] rfl rfl (by kernel_rfl) (by decide) (fun K hK => ?_)
     refine goesV_ (t := 50) Tryd.func24 (by kernel_rfl) rfl #[.agg #[.int .i64 (rd_T72 s.f2.f1 n1).f0, .bool (rd_T72 s.f2.f1 n1).f1, .int .i64 (rd_T72 s.f2.f1 n1).f2]] #[.agg #[.int .i64 (rd_T72 s.f2.f1 n1).f0, .bool (rd_T72 s.f2.f1 n1).f1, .int .i64 (rd_T72 s.f2.f1 n1).f2], .pointer (some ⟨w.heap.size + 1, 0, none⟩)] (by rfl) rfl rfl (by rfl) (by (try simp only [List.map_toArray, List.map_cons, List.map_nil]); first | done | rfl) (by rfl) ?_
     refine (mapped1 (rd_T72 s.f2.f1 n1) ids A c _ gi _ ((blk_cell HT1.out.fun_ 0).trans rfl) (pw_cell_below HT1.out.below HGI.out) (Kd.C_below HC.out HT1.out.below) hb (fun h => (HOX.out h).1) (fun h => (HOX.out h).2)).mono ?_
     rintro e x2 ⟨rfl, hb2⟩
     refine ⟨_, rfl, ?_⟩
     have HT2 := Aside0.mk (HT1.out.same hb2)
     have HR2 := Aside0.mk (Kd.R_below HR1'.out hb2)
     have HX2 := Aside0.mk (blk_below HX.out hb2)
     have HE0b := Aside0.mk (Kd.R_below HE0a.out hb2)
     clear HE0a
     clear hb2 HT1 HR1' HX HOX
     refine hK.out _ _ ⟨(blk_cell HT2.out.out 3).trans rfl, (blk_cell HX2.out 0).trans rfl, (blk_cell HX2.out 1).trans rfl, (blk_cell HX2.out 2).trans rfl⟩ (fun hHeld => ?_)
     clear hK K
     refine norm_ (a' := ?_) ?_ ?_
     rotate_left; · (show Act.put _ (some 52) _ = _; simp only [Act.put, List.setIfInBounds_toArray, List.set_cons_zero, List.set_cons_succ, i64_w, i32_w]; rfl)
     refine one_ (i := 6) (N := some 53) #[true, true, true, true, true, true, true, false, false, false, false] rfl rfl (by kernel_rfl) (by decide) (fun K hK => ?_)
     refine value_ (w1 := ?_) (v := ?_) (by rfl) rfl ?_ ?_
     rotate_left 2
     ·
      go_simp
      constructor
      · rfl
      · rfl
     have HT3 := Aside0.mk (HT2.out.same (below_alloc (Below.refl _ _) (.cells #[.int .i64 (mapV ids (rd_T72 s.f2.f1 n1)).f0, .bool (mapV ids (rd_T72 s.f2.f1 n1)).f1, .int .i64 (mapV ids (rd_T72 s.f2.f1 n1)).f2] 72)))
     have HX3 := Aside0.mk (blk_alloc HX2.out (.cells #[.int .i64 (mapV ids (rd_T72 s.f2.f1 n1)).f0, .bool (mapV ids (rd_T72 s.f2.f1 n1)).f1, .int .i64 (mapV ids (rd_T72 s.f2.f1 n1)).f2] 72))
     refine hK.out _ _ ⟨(blk_cell HT3.out.out 3).trans rfl, (blk_cell HX3.out 0).trans rfl, (blk_cell HX3.out 1).trans rfl, (blk_cell HX3.out 2).trans rfl⟩ (fun hHeld => ?_)
     clear hK K
     refine norm_ (a' := ?_) ?_ ?_
     rotate_left; · (show Act.put _ (some 53) _ = _; simp only [Act.put, List.setIfInBounds_toArray, List.set_cons_zero, List.set_cons_succ, i64_w, i32_w]; rfl)
     refine one_ (i := 7) (N := some 54) #[true, true, true, true, true, true, true, true, false, false, false] rfl rfl (by kernel_rfl) (by decide) (fun K hK => ?_)
     refine Kd.R_append_step k72 (w0 := x2) w.heap.size (by rfl) (.tmp 49) (.tmp 53) 36 72 (.agg #[(.int .i64 0), (.bool false), (.int .i64 0)]) 24 rfl Tryd.underlying36 info72 rfl (by decide) (by omega) u1 ((s.f2.f1.take n1).map (mapV ids)) (mapV ids (rd_T72 s.f2.f1 n1)) [.int .i64 (mapV ids (rd_T72 s.f2.f1 n1)).f0, .bool (mapV ids (rd_T72 s.f2.f1 n1)).f1, .int .i64 (mapV ids (rd_T72 s.f2.f1 n1)).f2] (fun _ => True) (fun _ => False) rfl rfl ?aP (fun _ hk => hk.elim) ?aF ?aO ?aB ?aS ?aL ?_
     (case aP => exact k72_mkM _ _ _ _)
     (case aB => exact Below.refl _ _)
     (case aF => exact (fun _ _ => trivial))
     (case aO => exact HR2.out)
     (case aS => exact HT2.out.below.size)
     (case aL => have := List.length_take_le n1 s.f2.f1; rw [List.length_map]; omega)
     intro v' x4 ho hb' hg hat
     have HT4 := Aside0.mk (HT2.out.appended hb' hg (fun g cs t hc ht => Kd.R_ne HR2.out hc (by rcases ht with rfl | rfl <;> decide)))
     have HR4' := Aside0.mk ho
     have HX4 := Aside0.mk (blk_grown HX2.out hg HNV.out)
     have HE0c := Aside0.mk (Kd.R_after HE0b.out hg hat)
     clear HE0b
     clear ho hb' hg hat HT3 HR2 HX2 HX3
     obtain ⟨Av, cv, ev⟩ := Kd.R_slice HR4'.out
     rw [show (((s.f2.f1.take n1).map (mapV ids)) ++ [mapV ids (rd_T72 s.f2.f1 n1)]).length = n1 + 1 from by simp; omega] at ev
     subst ev
     refine hK.out _ _ ⟨(blk_cell HT4.out.out 3).trans rfl, (blk_cell HX4.out 0).trans rfl, (blk_cell HX4.out 1).trans rfl, (blk_cell HX4.out 2).trans rfl⟩ (fun hHeld => ?_)
     clear hK K
     refine norm_ (a' := ?_) ?_ ?_
     rotate_left; · (show Act.put _ (some 54) _ = _; simp only [Act.put, List.setIfInBounds_toArray, List.set_cons_zero, List.set_cons_succ, i64_w, i32_w]; rfl)
     refine pure_ (i := 8) (N := some 55) (v := ?_) (a' := ?_) #[true, true, true, true, true, true, true, true, true, false, false] rfl rfl (by kernel_rfl) (fun _ _ _ h => h) (Or.inl ⟨by rfl, ?_⟩) ?_ ?_
     rotate_left; · (intro w'; go_simp; with_reducible rfl)
     rotate_left; · (simp only [Act.put, List.setIfInBounds_toArray, List.set_cons_zero, List.set_cons_succ, i64_w, i32_w]; rfl)
     refine pure_ (i := 9) (N := some 56) (v := ?_) (a' := ?_) #[true, true, true, true, true, true, true, true, true, true, false] rfl rfl (by kernel_rfl) (fun _ _ _ h => h) (Or.inl ⟨by rfl, ?_⟩) ?_ ?_
     rotate_left; · (intro w'; go_simp; with_reducible rfl)
     rotate_left; · (simp only [Act.put, List.setIfInBounds_toArray, List.set_cons_zero, List.set_cons_succ, i64_w, i32_w]; rfl)
     refine last_ (i := 10) (N := none) #[true, true, true, true, true, true, true, true, true, true, true] rfl rfl (by kernel_rfl) (by decide) (fun K hK => ?_)
     have hs : x4.cell? ⟨w.heap.size + 1 + 1 + 1, 3, none⟩ = some u1 := (blk_cell HT4.out.out 3).trans rfl
     have hf := blk_frozen HT4.out.out 3
     refine skip_ (w1 := ?_) (by rfl) rfl ?_ ?_
     rotate_left
     ·
      go_simp
      rfl
     refine hK.out _ _ ?_
     clear hK K
     refine done_ (by kernel_rfl) ?_
     have HT5 := Aside0.mk (HT4.out.set3 (.slice Av (n1 + 1) cv))
     have HR5' := Aside0.mk (Kd.R_set HR4'.out HT4.out.out (by decide) 3 (.slice Av (n1 + 1) cv))
     have HE0d := Aside0.mk (Kd.R_set HE0c.out HT4.out.out (by decide) 3 (.slice Av (n1 + 1) cv))
     clear HE0c
     clear hs hf HT4 HR4' hHeld hx0 hx1 hx2 HX4
     go_wp2
     go_roundw
     case rel => exact ⟨n1 + 1, _, by omega, by go_num, HT5.out, by rw [take_T72 _ _ hlt, List.map_append]; exact HR5'.out, HE0d.out⟩
     case measure => simp [intOf]; omega
    ·
     obtain ⟨B1, N1, D1, ev⟩ : ∃ B N D, u1 = .slice B N D := by obtain ⟨B, D, e⟩ := Kd.R_slice HR.out; exact ⟨B, _, D, e⟩
     subst ev
     have HE1 := Aside0.mk (show Kd.R k72 72 wr w.heap.size (fun _ => True) (.slice B1 N1 D1) (s.f2.f1.map (mapV ids)) by have h := HR.out; rw [List.take_of_length_le (by omega)] at h; exact h)
     replace HE0 := Aside0.mk (Kd.R_mono HE0.out (fun _ h => h.1))
     clear HR
     have hb2 : wr.cell? ⟨w.heap.size, 4, none⟩ = some (.slice A4 s.f2.f2.length k4) := (blk_cell HT.out.box 4).trans rfl
     go_wp2
     go_loopw [62] (fun v62 wr => ∃ (n2 : Nat) (u2 : Value), n2 ≤ s.f2.f2.length ∧ v62 = .int .i64 n2 ∧ MInv w (.bool s.f0) (.slice A1 s.f1.length k1) (.int .i64 s.f2.f0) (.slice A3 s.f2.f1.length k3) (.slice A4 s.f2.f2.length k4) (.slice A5 s.f2.f3.length k5) (.func (.func 23) #[] #[.pointer (some ⟨gi, 0, none⟩)]) (.slice B0 N0 D0) (.slice B1 N1 D1) (u2) (.slice none 0 0) wr ∧ Kd.R k72 72 wr w.heap.size (fun _ => True) u2 ((s.f2.f2.take n2).map (mapV ids)) ∧ Kd.R (Kd.int .i64) 3 wr w.heap.size (fun k_ => True ∧ some k_ ≠ (u2 : Value).ownBlock) (.slice B0 N0 D0) (s.f1.map (turnI ids)) ∧ Kd.R k72 72 wr w.heap.size (fun k_ => True ∧ some k_ ≠ (u2 : Value).ownBlock) (.slice B1 N1 D1) (s.f2.f1.map (mapV ids))) (fun v62 _ => s.f2.f2.length - (intOf v62).toNat)
     case atStart =>
      exact ⟨0, .slice none 0 0, Nat.zero_le _, rfl, HT.out, Kd.R_nil _ _ _ _ _, Kd.R_apart_nil HE0.out, Kd.R_apart_nil HE1.out⟩
     case round =>
      clear HT hb2 HE0 HE1
      obtain ⟨n2, u2, hk, rfl, hT, hR, hE0, hE1⟩ := hrel
      have HT := Aside0.mk hT
      have HR := Aside0.mk hR
      have HE0 := Aside0.mk hE0
      have HE1 := Aside0.mk hE1
      clear hT hR hE0 hE1
      by_cases hlt : n2 < s.f2.f2.length
      ·
       have i0 : (0 : Int) ≤ (n2 : Int) := Int.natCast_nonneg _
       have i1 : (n2 : Int) < (s.f2.f2.length : Int) := by omega
       obtain ⟨ad, eA, hx0, hx1, hx2⟩ := at_T72 HR4.out (n2 : Int) i0 i1
       cases eA
       replace hx0 := pw_cell_below HT.out.below hx0
       rw [Int.toNat_natCast] at hx0
       replace hx1 := pw_cell_below HT.out.below hx1
       rw [Int.toNat_natCast] at hx1
       replace hx2 := pw_cell_below HT.out.below hx2
       rw [Int.toNat_natCast] at hx2
       have HOX := Aside0.mk (okV_le hen (all_T72 HOK.out.2.2.1 hlt))
       go_wp2
       have HNV := Aside0.mk (R_ne_size HR.out)
       have HT1 := Aside0.mk ((HT.out.same (below_alloc (Below.refl _ _) (.cells #[.int .i64 (rd_T72 s.f2.f2 n2).f0, .bool (rd_T72 s.f2.f2 n2).f1, .int .i64 (rd_T72 s.f2.f2 n2).f2] 72))).drew)
       have HR1' := Aside0.mk (Kd.R_drew (Kd.R_alloc HR.out (.cells #[.int .i64 (rd_T72 s.f2.f2 n2).f0, .bool (rd_T72 s.f2.f2 n2).f1, .int .i64 (rd_T72 s.f2.f2 n2).f2] 72)))
       have HX := Aside0.mk (blk_drew (blk_new wr (.cells #[.int .i64 (rd_T72 s.f2.f2 n2).f0, .bool (rd_T72 s.f2.f2 n2).f1, .int .i64 (rd_T72 s.f2.f2 n2).f2] 72)))
       clear HT HR
       have HE0a := Aside0.mk (Kd.R_drew (Kd.R_alloc HE0.out (.cells #[.int .i64 (rd_T72 s.f2.f2 n2).f0, .bool (rd_T72 s.f2.f2 n2).f1, .int .i64 (rd_T72 s.f2.f2 n2).f2] 72)))
       have HE1a := Aside0.mk (Kd.R_drew (Kd.R_alloc HE1.out (.cells #[.int .i64 (rd_T72 s.f2.f2 n2).f0, .bool (rd_T72 s.f2.f2 n2).f1, .int .i64 (rd_T72 s.f2.f2 n2).f2] 72)))
       clear HE0 HE1
       refine start_ (n := 11) (S := fun w' => w'.cell? ⟨w.heap.size + 1 + 1 + 1, 4, none⟩ = some u2 ∧ w'.cell? ⟨wr.heap.size, 0, none⟩ = some (.int .i64 (rd_T72 s.f2.f2 n2).f0) ∧ w'.cell? ⟨wr.heap.size, 1, none⟩ = some (.bool (rd_T72 s.f2.f2 n2).f1) ∧ w'.cell? ⟨wr.heap.size, 2, none⟩ = some (.int .i64 (rd_T72 s.f2.f2 n2).f2)) (ds := [10]) #[false, false, false, false, false, false, false, false, false, false, false] (by kernel_rfl) rfl rfl ⟨(blk_cell HT1.out.out 4).trans rfl, (blk_cell HX.out 0).trans rfl, (blk_cell HX.out 1).trans rfl, (blk_cell HX.out 2).trans rfl⟩ (fun hHeld => ?_)
       generalize (wr.alloc (.cells #[.int .i64 (rd_T72 s.f2.f2 n2).f0, .bool (rd_T72 s.f2.f2 n2).f1, .int .i64 (rd_T72 s.f2.f2 n2).f2] 72)).drew = x1 at HT1 HR1' HX HE0a HE1a hHeld ⊢
       refine pure_ (i := 0) (N := some 66) (v := ?_) (a' := ?_) #[true, false, false, false, false, false, false, false, false, false, false] rfl rfl (by kernel_rfl) (fun _ _ _ h => h) (Or.inl ⟨by rfl, ?_⟩) ?_ ?_
       rotate_left; · (intro w'; go_simp; with_reducible rfl)
       rotate_left; · (simp only [Act.put, List.setIfInBounds_toArray, List.set_cons_zero, List.set_cons_succ, i64_w, i32_w]; rfl)
       refine pure_ (i := 1) (N := some 67) (v := ?_) (a' := ?_) #[true, true, false, false, false, false, false, false, false, false, false] rfl rfl (by kernel_rfl) (fun _ _ _ h => h) (Or.inl ⟨by rfl, ?_⟩) ?_ ?_
       rotate_left; · (intro w'; go_simp; with_reducible rfl)
       rotate_left; · (simp only [Act.put, List.setIfInBounds_toArray, List.set_cons_zero, List.set_cons_succ, i64_w, i32_w]; rfl)
       refine pure_ (i := 3) (N := some 69) (v := ?_) (a' := ?_) #[true, true, false, true, false, false, false, false, false, false, false] rfl rfl (by kernel_rfl) (fun _ _ _ h => h) (Or.inl ⟨by rfl, ?_⟩) ?_ ?_
       rotate_left; · (intro w'; go_simp; with_reducible rfl)
       rotate_left; · (simp only [Act.put, List.setIfInBounds_toArray, List.set_cons_zero, List.set_cons_succ, i64_w, i32_w]; rfl)
       refine take_ (i := 2) (N := some 68) (v := ?_) (a' := ?_) #[true, true, true, true, false, false, false, false, false, false, false] rfl rfl (by kernel_rfl) (fun _ _ _ h => h) (Or.inl ⟨by rfl, ?_⟩) hHeld ?_ ?_
       rotate_left; · (rintro w' ⟨s0, s1, s2, s3⟩; go_simp; with_reducible rfl)
       rotate_left; · (simp only [Act.put, List.setIfInBounds_toArray, List.set_cons_zero, List.set_cons_succ, i64_w, i32_w]; rfl)
       refine take_ (i := 4) (N := some 70) (v := ?_) (a' := ?_) #[true, true, true, true, true, false, false, false, false, false, false] rfl rfl (by kernel_rfl) (fun _ _ _ h => h) (Or.inl ⟨by rfl, ?_⟩) hHeld ?_ ?_
       rotate_left; · (rintro w' ⟨s0, s1, s2, s3⟩; go_simp; with_reducible rfl)
       rotate_left; · (simp only [Act.put, List.setIfInBounds_toArray, List.set_cons_zero, List.set_cons_succ, i64_w, i32_w]; rfl)
       refine one_ (i := 5) (N := some 71) #[true, true, true, true, true, true, false, false, false, false, false] rfl rfl (by kernel_rfl) (by decide) (fun K hK => ?_)
       refine goesV_ (t := 69) Tryd.func24 (by kernel_rfl) rfl #[.agg #[.int .i64 (rd_T72 s.f2.f2 n2).f0, .bool (rd_T72 s.f2.f2 n2).f1, .int .i64 (rd_T72 s.f2.f2 n2).f2]] #[.agg #[.int .i64 (rd_T72 s.f2.f2 n2).f0, .bool (rd_T72 s.f2.f2 n2).f1, .int .i64 (rd_T72 s.f2.f2 n2).f2], .pointer (some ⟨w.heap.size + 1, 0, none⟩)] (by rfl) rfl rfl (by rfl) (by (try simp only [List.map_toArray, List.map_cons, List.map_nil]); first | done | rfl) (by rfl) ?_
       refine (mapped1 (rd_T72 s.f2.f2 n2) ids A c _ gi _ ((blk_cell HT1.out.fun_ 0).trans rfl) (pw_cell_below HT1.out.below HGI.out) (Kd.C_below HC.out HT1.out.below) hb (fun h => (HOX.out h).1) (fun h => (HOX.out h).2)).mono ?_
       rintro e x2 ⟨rfl, hb2⟩
       refine ⟨_, rfl, ?_⟩
       have HT2 := Aside0.mk (HT1.out.same hb2)
       have HR2 := Aside0.mk (Kd.R_below HR1'.out hb2)
       have HX2 := Aside0.mk (blk_below HX.out hb2)
       have HE0b := Aside0.mk (Kd.R_below HE0a.out hb2)
       have HE1b := Aside0.mk (Kd.R_below HE1a.out hb2)
       clear HE0a HE1a
       clear hb2 HT1 HR1' HX HOX
       refine hK.out _ _ ⟨(blk_cell HT2.out.out 4).trans rfl, (blk_cell HX2.out 0).trans rfl, (blk_cell HX2.out 1).trans rfl, (blk_cell HX2.out 2).trans rfl⟩ (fun hHeld => ?_)
       clear hK K
       refine norm_ (a' := ?_) ?_ ?_
       rotate_left; · (show Act.put _ (some 71) _ = _; simp only [Act.put, List.setIfInBounds_toArray, List.set_cons_zero, List.set_cons_succ, i64_w, i32_w]; rfl)
       refine one_ (i := 6) (N := some 72) #[true, true, true, true, true, true, true, false, false, false, false] rfl rfl (by kernel_rfl) (by decide) (fun K hK => ?_)
       refine value_ (w1 := ?_) (v := ?_) (by rfl) rfl ?_ ?_
       rotate_left 2
       ·
        go_simp
        constructor
        · rfl
        · rfl
       have HT3 := Aside0.mk (HT2.out.same (below_alloc (Below.refl _ _) (.cells #[.int .i64 (mapV ids (rd_T72 s.f2.f2 n2)).f0, .bool (mapV ids (rd_T72 s.f2.f2 n2)).f1, .int .i64 (mapV ids (rd_T72 s.f2.f2 n2)).f2] 72)))
       have HX3 := Aside0.mk (blk_alloc HX2.out (.cells #[.int .i64 (mapV ids (rd_T72 s.f2.f2 n2)).f0, .bool (mapV ids (rd_T72 s.f2.f2 n2)).f1, .int .i64 (mapV ids (rd_T72 s.f2.f2 n2)).f2] 72))
       refine hK.out _ _ ⟨(blk_cell HT3.out.out 4).trans rfl, (blk_cell HX3.out 0).trans rfl, (blk_cell HX3.out 1).trans rfl, (blk_cell HX3.out 2).trans rfl⟩ (fun hHeld => ?_)
       clear hK K
       refine norm_ (a' := ?_) ?_ ?_
       rotate_left; · (show Act.put _ (some 72) _ = _; simp only [Act.put, List.setIfInBounds_toArray, List.set_cons_zero, List.set_cons_succ, i64_w, i32_w]; rfl)
       refine one_ (i := 7) (N := some 73) #[true, true, true, true, true, true, true, true, false, false, false] rfl rfl (by kernel_rfl) (by decide) (fun K hK => ?_)
       refine Kd.R_append_step k72 (w0 := x2) w.heap.size (by rfl) (.tmp 68) (.tmp 72) 36 72 (.agg #[(.int .i64 0), (.bool false), (.int .i64 0)]) 24 rfl Tryd.underlying36 info72 rfl (by decide) (by omega) u2 ((s.f2.f2.take n2).map (mapV ids)) (mapV ids (rd_T72 s.f2.f2 n2)) [.int .i64 (mapV ids (rd_T72 s.f2.f2 n2)).f0, .bool (mapV ids (rd_T72 s.f2.f2 n2)).f1, .int .i64 (mapV ids (rd_T72 s.f2.f2 n2)).f2] (fun _ => True) (fun _ => False) rfl rfl ?aP (fun _ hk => hk.elim) ?aF ?aO ?aB ?aS ?aL ?_
       (case aP => exact k72_mkM _ _ _ _)
       (case aB => exact Below.refl _ _)
       (case aF => exact (fun _ _ => trivial))
       (case aO => exact HR2.out)
       (case aS => exact HT2.out.below.size)
       (case aL => have := List.length_take_le n2 s.f2.f2; rw [List.length_map]; omega)
       intro v' x4 ho hb' hg hat
       have HT4 := Aside0.mk (HT2.out.appended hb' hg (fun g cs t hc ht => Kd.R_ne HR2.out hc (by rcases ht with rfl | rfl <;> decide)))
       have HR4' := Aside0.mk ho
       have HX4 := Aside0.mk (blk_grown HX2.out hg HNV.out)
       have HE0c := Aside0.mk (Kd.R_after HE0b.out hg hat)
       have HE1c := Aside0.mk (Kd.R_after HE1b.out hg hat)
       clear HE0b HE1b
       clear ho hb' hg hat HT3 HR2 HX2 HX3
       obtain ⟨Av, cv, ev⟩ := Kd.R_slice HR4'.out
       rw [show (((s.f2.f2.take n2).map (mapV ids)) ++ [mapV ids (rd_T72 s.f2.f2 n2)]).length = n2 + 1 from by simp; omega] at ev
       subst ev
       refine hK.out _ _ ⟨(blk_cell HT4.out.out 4).trans rfl, (blk_cell HX4.out 0).trans rfl, (blk_cell HX4.out 1).trans rfl, (blk_cell HX4.out 2).trans rfl⟩ (fun hHeld => ?_)
       clear hK K
       refine norm_ (a' := ?_) ?_ ?_
       rotate_left; · (show Act.put _ (some 73) _ = _; simp only [Act.put, List.setIfInBounds_toArray, List.set_cons_zero, List.set_cons_succ, i64_w, i32_w]; rfl)
       refine pure_ (i := 8) (N := some 74) (v := ?_) (a' := ?_) #[true, true, true, true, true, true, true, true, true, false, false] rfl rfl (by kernel_rfl) (fun _ _ _ h => h) (Or.inl ⟨by rfl, ?_⟩) ?_ ?_
       rotate_left; · (intro w'; go_simp; with_reducible rfl)
       rotate_left; · (simp only [Act.put, List.setIfInBounds_toArray, List.set_cons_zero, List.set_cons_succ, i64_w, i32_w]; rfl)
       refine pure_ (i := 9) (N := some 75) (v := ?_) (a' := ?_) #[true, true, true, true, true, true, true, true, true, true, false] rfl rfl (by kernel_rfl) (fun _ _ _ h => h) (Or.inl ⟨by rfl, ?_⟩) ?_ ?_
       rotate_left; · (intro w'; go_simp; with_reducible rfl)
       rotate_left; · (simp only [Act.put, List.setIfInBounds_toArray, List.set_cons_zero, List.set_cons_succ, i64_w, i32_w]; rfl)
       refine last_ (i := 10) (N := none) #[true, true, true, true, true, true, true, true, true, true, true] rfl rfl (by kernel_rfl) (by decide) (fun K hK => ?_)
       have hs : x4.cell? ⟨w.heap.size + 1 + 1 + 1, 4, none⟩ = some u2 := (blk_cell HT4.out.out 4).trans rfl
       have hf := blk_frozen HT4.out.out 4
       refine skip_ (w1 := ?_) (by rfl) rfl ?_ ?_
       rotate_left
       ·
        go_simp
        rfl
       refine hK.out _ _ ?_
       clear hK K
       refine done_ (by kernel_rfl) ?_
       have HT5 := Aside0.mk (HT4.out.set4 (.slice Av (n2 + 1) cv))
       have HR5' := Aside0.mk (Kd.R_set HR4'.out HT4.out.out (by decide) 4 (.slice Av (n2 + 1) cv))
       have HE0d := Aside0.mk (Kd.R_set HE0c.out HT4.out.out (by decide) 4 (.slice Av (n2 + 1) cv))
       have HE1d := Aside0.mk (Kd.R_set HE1c.out HT4.out.out (by decide) 4 (.slice Av (n2 + 1) cv))
       clear HE0c HE1c
       clear hs hf HT4 HR4' hHeld hx0 hx1 hx2 HX4
       go_wp2
       go_roundw
       case rel => exact ⟨n2 + 1, _, by omega, by go_num, HT5.out, by rw [take_T72 _ _ hlt, List.map_append]; exact HR5'.out, HE0d.out, HE1d.out⟩
       case measure => simp [intOf]; omega
      ·
       obtain ⟨B2, N2, D2, ev⟩ : ∃ B N D, u2 = .slice B N D := by obtain ⟨B, D, e⟩ := Kd.R_slice HR.out; exact ⟨B, _, D, e⟩
       subst ev
       have HE2 := Aside0.mk (show Kd.R k72 72 wr w.heap.size (fun _ => True) (.slice B2 N2 D2) (s.f2.f2.map (mapV ids)) by have h := HR.out; rw [List.take_of_length_le (by omega)] at h; exact h)
       replace HE0 := Aside0.mk (Kd.R_mono HE0.out (fun _ h => h.1))
       replace HE1 := Aside0.mk (Kd.R_mono HE1.out (fun _ h => h.1))
       clear HR
       have hb2 : wr.cell? ⟨w.heap.size, 5, none⟩ = some (.slice A5 s.f2.f3.length k5) := (blk_cell HT.out.box 5).trans rfl
       go_wp2
       go_loopw [81] (fun v81 wr => ∃ (n3 : Nat) (u3 : Value), n3 ≤ s.f2.f3.length ∧ v81 = .int .i64 n3 ∧ MInv w (.bool s.f0) (.slice A1 s.f1.length k1) (.int .i64 s.f2.f0) (.slice A3 s.f2.f1.length k3) (.slice A4 s.f2.f2.length k4) (.slice A5 s.f2.f3.length k5) (.func (.func 23) #[] #[.pointer (some ⟨gi, 0, none⟩)]) (.slice B0 N0 D0) (.slice B1 N1 D1) (.slice B2 N2 D2) (u3) wr ∧ Kd.R k75 75 wr w.heap.size (fun _ => True) u3 ((s.f2.f3.take n3).map (mapF ids)) ∧ Kd.R (Kd.int .i64) 3 wr w.heap.size (fun k_ => True ∧ some k_ ≠ (u3 : Value).ownBlock) (.slice B0 N0 D0) (s.f1.map (turnI ids)) ∧ Kd.R k72 72 wr w.heap.size (fun k_ => True ∧ some k_ ≠ (u3 : Value).ownBlock) (.slice B1 N1 D1) (s.f2.f1.map (mapV ids)) ∧ Kd.R k72 72 wr w.heap.size (fun k_ => True ∧ some k_ ≠ (u3 : Value).ownBlock) (.slice B2 N2 D2) (s.f2.f2.map (mapV ids))) (fun v81 _ => s.f2.f3.length - (intOf v81).toNat)
       case atStart =>
        exact ⟨0, .slice none 0 0, Nat.zero_le _, rfl, HT.out, Kd.R_nil _ _ _ _ _, Kd.R_apart_nil HE0.out, Kd.R_apart_nil HE1.out, Kd.R_apart_nil HE2.out⟩
       case round =>
        clear HT hb2 HE0 HE1 HE2
        obtain ⟨n3, u3, hk, rfl, hT, hR, hE0, hE1, hE2⟩ := hrel
        have HT := Aside0.mk hT
        have HR := Aside0.mk hR
        have HE0 := Aside0.mk hE0
        have HE1 := Aside0.mk hE1
        have HE2 := Aside0.mk hE2
        clear hT hR hE0 hE1 hE2
        by_cases hlt : n3 < s.f2.f3.length
        ·
         have i0 : (0 : Int) ≤ (n3 : Int) := Int.natCast_nonneg _
         have i1 : (n3 : Int) < (s.f2.f3.length : Int) := by omega
         obtain ⟨ad, eA, hx0, hx1, hx2, hx3⟩ := at_T75 HR5.out (n3 : Int) i0 i1
         cases eA
         replace hx0 := pw_cell_below HT.out.below hx0
         rw [Int.toNat_natCast] at hx0
         replace hx1 := pw_cell_below HT.out.below hx1
         rw [Int.toNat_natCast] at hx1
         replace hx2 := pw_cell_below HT.out.below hx2
         rw [Int.toNat_natCast] at hx2
         replace hx3 := pw_cell_below HT.out.below hx3
         rw [Int.toNat_natCast] at hx3
         have HOX := Aside0.mk (okV_le hen (all_T75 HOK.out.2.2.2 hlt))
         go_wp2
         have HNV := Aside0.mk (R_ne_size HR.out)
         have HT1 := Aside0.mk ((HT.out.same (below_alloc (Below.refl _ _) (.cells #[.int .i64 (rd_T75 s.f2.f3 n3).f0.f0, .bool (rd_T75 s.f2.f3 n3).f0.f1, .int .i64 (rd_T75 s.f2.f3 n3).f0.f2, .bool (rd_T75 s.f2.f3 n3).f1] 75))).drew)
         have HR1' := Aside0.mk (Kd.R_drew (Kd.R_alloc HR.out (.cells #[.int .i64 (rd_T75 s.f2.f3 n3).f0.f0, .bool (rd_T75 s.f2.f3 n3).f0.f1, .int .i64 (rd_T75 s.f2.f3 n3).f0.f2, .bool (rd_T75 s.f2.f3 n3).f1] 75)))
         have HX := Aside0.mk (blk_drew (blk_new wr (.cells #[.int .i64 (rd_T75 s.f2.f3 n3).f0.f0, .bool (rd_T75 s.f2.f3 n3).f0.f1, .int .i64 (rd_T75 s.f2.f3 n3).f0.f2, .bool (rd_T75 s.f2.f3 n3).f1] 75)))
         clear HT HR
         have HE0a := Aside0.mk (Kd.R_drew (Kd.R_alloc HE0.out (.cells #[.int .i64 (rd_T75 s.f2.f3 n3).f0.f0, .bool (rd_T75 s.f2.f3 n3).f0.f1, .int .i64 (rd_T75 s.f2.f3 n3).f0.f2, .bool (rd_T75 s.f2.f3 n3).f1] 75)))
         have HE1a := Aside0.mk (Kd.R_drew (Kd.R_alloc HE1.out (.cells #[.int .i64 (rd_T75 s.f2.f3 n3).f0.f0, .bool (rd_T75 s.f2.f3 n3).f0.f1, .int .i64 (rd_T75 s.f2.f3 n3).f0.f2, .bool (rd_T75 s.f2.f3 n3).f1] 75)))
         have HE2a := Aside0.mk (Kd.R_drew (Kd.R_alloc HE2.out (.cells #[.int .i64 (rd_T75 s.f2.f3 n3).f0.f0, .bool (rd_T75 s.f2.f3 n3).f0.f1, .int .i64 (rd_T75 s.f2.f3 n3).f0.f2, .bool (rd_T75 s.f2.f3 n3).f1] 75)))
         clear HE0 HE1 HE2
         refine start_ (n := 15) (S := fun w' => w'.cell? ⟨w.heap.size + 1 + 1 + 1, 5, none⟩ = some u3 ∧ w'.cell? ⟨wr.heap.size, 0, none⟩ = some (.int .i64 (rd_T75 s.f2.f3 n3).f0.f0) ∧ w'.cell? ⟨wr.heap.size, 1, none⟩ = some (.bool (rd_T75 s.f2.f3 n3).f0.f1) ∧ w'.cell? ⟨wr.heap.size, 2, none⟩ = some (.int .i64 (rd_T75 s.f2.f3 n3).f0.f2) ∧ w'.cell? ⟨wr.heap.size, 3, none⟩ = some (.bool (rd_T75 s.f2.f3 n3).f1)) (ds := [14]) #[false, false, false, false, false, false, false, false, false, false, false, false, false, false, false] (by kernel_rfl) rfl rfl ⟨(blk_cell HT1.out.out 5).trans rfl, (blk_cell HX.out 0).trans rfl, (blk_cell HX.out 1).trans rfl, (blk_cell HX.out 2).trans rfl, (blk_cell HX.out 3).trans rfl⟩ (fun hHeld => ?_)
         generalize (wr.alloc (.cells #[.int .i64 (rd_T75 s.f2.f3 n3).f0.f0, .bool (rd_T75 s.f2.f3 n3).f0.f1, .int .i64 (rd_T75 s.f2.f3 n3).f0.f2, .bool (rd_T75 s.f2.f3 n3).f1] 75)).drew = x1 at HT1 HR1' HX HE0a HE1a HE2a hHeld ⊢
         refine pure_ (i := 0) (N := some 85) (v := ?_) (a' := ?_) #[true, false, false, false, false, false, false, false, false, false, false, false, false, false, false] rfl rfl (by kernel_rfl) (fun _ _ _ h => h) (Or.inl ⟨by rfl, ?_⟩) ?_ ?_
         rotate_left; · (intro w'; go_simp; with_reducible rfl)
         rotate_left; · (simp only [Act.put, List.setIfInBounds_toArray, List.set_cons_zero, List.set_cons_succ, i64_w, i32_w]; rfl)
         refine pure_ (i := 1) (N := some 86) (v := ?_) (a' := ?_) #[true, true, false, false, false, false, false, false, false, false, false, false, false, false, false] rfl rfl (by kernel_rfl) (fun _ _ _ h => h) (Or.inl ⟨by rfl, ?_⟩) ?_ ?_
         rotate_left; · (intro w'; go_simp; with_reducible rfl)
         rotate_left; · (simp only [Act.put, List.setIfInBounds_toArray, List.set_cons_zero, List.set_cons_succ, i64_w, i32_w]; rfl)
         refine pure_ (i := 3) (N := some 88) (v := ?_) (a' := ?_) #[true, true, false, true, false, false, false, false, false, false, false, false, false, false, false] rfl rfl (by kernel_rfl) (fun _ _ _ h => h) (Or.inl ⟨by rfl, ?_⟩) ?_ ?_
         rotate_left; · (intro w'; go_simp; with_reducible rfl)
         rotate_left; · (simp only [Act.put, List.setIfInBounds_toArray, List.set_cons_zero, List.set_cons_succ, i64_w, i32_w]; rfl)
         refine pure_ (i := 4) (N := some 89) (v := ?_) (a' := ?_) #[true, true, false, true, true, false, false, false, false, false, false, false, false, false, false] rfl rfl (by kernel_rfl) (fun _ _ _ h => h) (Or.inl ⟨by rfl, ?_⟩) ?_ ?_
         rotate_left; · (intro w'; go_simp; with_reducible rfl)
         rotate_left; · (simp only [Act.put, List.setIfInBounds_toArray, List.set_cons_zero, List.set_cons_succ, i64_w, i32_w]; rfl)
         refine pure_ (i := 7) (N := some 92) (v := ?_) (a' := ?_) #[true, true, false, true, true, false, false, true, false, false, false, false, false, false, false] rfl rfl (by kernel_rfl) (fun _ _ _ h => h) (Or.inl ⟨by rfl, ?_⟩) ?_ ?_
         rotate_left; · (intro w'; go_simp; with_reducible rfl)
         rotate_left; · (simp only [Act.put, List.setIfInBounds_toArray, List.set_cons_zero, List.set_cons_succ, i64_w, i32_w]; rfl)
         refine take_ (i := 2) (N := some 87) (v := ?_) (a' := ?_) #[true, true, true, true, true, false, false, true, false, false, false, false, false, false, false] rfl rfl (by kernel_rfl) (fun _ _ _ h => h) (Or.inl ⟨by rfl, ?_⟩) hHeld ?_ ?_
         rotate_left; · (rintro w' ⟨s0, s1, s2, s3, s4⟩; go_simp; with_reducible rfl)
         rotate_left; · (simp only [Act.put, List.setIfInBounds_toArray, List.set_cons_zero, List.set_cons_succ, i64_w, i32_w]; rfl)
         refine take_ (i := 5) (N := some 90) (v := ?_) (a' := ?_) #[true, true, true, true, true, true, false, true, false, false, false, false, false, false, false] rfl rfl (by kernel_rfl) (fun _ _ _ h => h) (Or.inl ⟨by rfl, ?_⟩) hHeld ?_ ?_
         rotate_left; · (rintro w' ⟨s0, s1, s2, s3, s4⟩; go_simp; with_reducible rfl)
         rotate_left; · (simp only [Act.put, List.setIfInBounds_toArray, List.set_cons_zero, List.set_cons_succ, i64_w, i32_w]; rfl)
         refine take_ (i := 8) (N := some 93) (v := ?_) (a' := ?_) #[true, true, true, true, true, true, false, true, true, false, false, false, false, false, false] rfl rfl (by kernel_rfl) (fun _ _ _ h => h) (Or.inl ⟨by rfl, ?_⟩) hHeld ?_ ?_
         rotate_left; · (rintro w' ⟨s0, s1, s2, s3, s4⟩; go_simp; with_reducible rfl)
         rotate_left; · (simp only [Act.put, List.setIfInBounds_toArray, List.set_cons_zero, List.set_cons_succ, i64_w, i32_w]; rfl)
         refine one_ (i := 6) (N := some 91) #[true, true, true, true, true, true, true, true, true, false, false, false, false, false, false] rfl rfl (by kernel_rfl) (by decide) (fun K hK => ?_)
         refine goesV_ (t := 88) Tryd.func24 (by kernel_rfl) rfl #[.agg #[.int .i64 (rd_T75 s.f2.f3 n3).f0.f0, .bool (rd_T75 s.f2.f3 n3).f0.f1, .int .i64 (rd_T75 s.f2.f3 n3).f0.f2]] #[.agg #[.int .i64 (rd_T75 s.f2.f3 n3).f0.f0, .bool (rd_T75 s.f2.f3 n3).f0.f1, .int .i64 (rd_T75 s.f2.f3 n3).f0.f2], .pointer (some ⟨w.heap.size + 1, 0, none⟩)] (by rfl) rfl rfl (by rfl) (by (try simp only [List.map_toArray, List.map_cons, List.map_nil]); first | done | rfl) (by rfl) ?_
         refine (mapped1 (rd_T75 s.f2.f3 n3).f0 ids A c _ gi _ ((blk_cell HT1.out.fun_ 0).trans rfl) (pw_cell_below HT1.out.below HGI.out) (Kd.C_below HC.out HT1.out.below) hb (fun h => (HOX.out h).1) (fun h => (HOX.out h).2)).mono ?_
         rintro e x2 ⟨rfl, hb2⟩
         refine ⟨_, rfl, ?_⟩
         have HT2 := Aside0.mk (HT1.out.same hb2)
         have HR2 := Aside0.mk (Kd.R_below HR1'.out hb2)
         have HX2 := Aside0.mk (blk_below HX.out hb2)
         have HE0b := Aside0.mk (Kd.R_below HE0a.out hb2)
         have HE1b := Aside0.mk (Kd.R_below HE1a.out hb2)
         have HE2b := Aside0.mk (Kd.R_below HE2a.out hb2)
         clear HE0a HE1a HE2a
         clear hb2 HT1 HR1' HX HOX
         refine hK.out _ _ ⟨(blk_cell HT2.out.out 5).trans rfl, (blk_cell HX2.out 0).trans rfl, (blk_cell HX2.out 1).trans rfl, (blk_cell HX2.out 2).trans rfl, (blk_cell HX2.out 3).trans rfl⟩ (fun hHeld => ?_)
         clear hK K
         refine norm_ (a' := ?_) ?_ ?_
         rotate_left; · (show Act.put _ (some 91) _ = _; simp only [Act.put, List.setIfInBounds_toArray, List.set_cons_zero, List.set_cons_succ, i64_w, i32_w]; rfl)
         refine pure_ (i := 9) (N := some 94) (v := ?_) (a' := ?_) #[true, true, true, true, true, true, true, true, true, true, false, false, false, false, false] rfl rfl (by kernel_rfl) (fun _ _ _ h => h) (Or.inl ⟨by rfl, ?_⟩) ?_ ?_
         rotate_left; · (intro w'; go_simp; with_reducible rfl)
         rotate_left; · (simp only [Act.put, List.setIfInBounds_toArray, List.set_cons_zero, List.set_cons_succ, i64_w, i32_w]; rfl)
         refine one_ (i := 10) (N := some 95) #[true, true, true, true, true, true, true, true, true, true, true, false, false, false, false] rfl rfl (by kernel_rfl) (by decide) (fun K hK => ?_)
         refine value_ (w1 := ?_) (v := ?_) (by rfl) rfl ?_ ?_
         rotate_left 2
         ·
          go_simp
          constructor
          · rfl
          · rfl
         have HT3 := Aside0.mk (HT2.out.same (below_alloc (Below.refl _ _) (.cells #[.int .i64 (mapV ids (rd_T75 s.f2.f3 n3).f0).f0, .bool (mapV ids (rd_T75 s.f2.f3 n3).f0).f1, .int .i64 (mapV ids (rd_T75 s.f2.f3 n3).f0).f2, .bool (rd_T75 s.f2.f3 n3).f1] 75)))
         have HX3 := Aside0.mk (blk_alloc HX2.out (.cells #[.int .i64 (mapV ids (rd_T75 s.f2.f3 n3).f0).f0, .bool (mapV ids (rd_T75 s.f2.f3 n3).f0).f1, .int .i64 (mapV ids (rd_T75 s.f2.f3 n3).f0).f2, .bool (rd_T75 s.f2.f3 n3).f1] 75))
         refine hK.out _ _ ⟨(blk_cell HT3.out.out 5).trans rfl, (blk_cell HX3.out 0).trans rfl, (blk_cell HX3.out 1).trans rfl, (blk_cell HX3.out 2).trans rfl, (blk_cell HX3.out 3).trans rfl⟩ (fun hHeld => ?_)
         clear hK K
         refine norm_ (a' := ?_) ?_ ?_
         rotate_left; · (show Act.put _ (some 95) _ = _; simp only [Act.put, List.setIfInBounds_toArray, List.set_cons_zero, List.set_cons_succ, i64_w, i32_w]; rfl)
         refine one_ (i := 11) (N := some 96) #[true, true, true, true, true, true, true, true, true, true, true, true, false, false, false] rfl rfl (by kernel_rfl) (by decide) (fun K hK => ?_)
         refine Kd.R_append_step k75 (w0 := x2) w.heap.size (by rfl) (.tmp 87) (.tmp 95) 37 75 (.agg #[(.int .i64 0), (.bool false), (.int .i64 0), (.bool false)]) 32 rfl Tryd.underlying37 info75 rfl (by decide) (by omega) u3 ((s.f2.f3.take n3).map (mapF ids)) (mapF ids (rd_T75 s.f2.f3 n3)) [.int .i64 (mapV ids (rd_T75 s.f2.f3 n3).f0).f0, .bool (mapV ids (rd_T75 s.f2.f3 n3).f0).f1, .int .i64 (mapV ids (rd_T75 s.f2.f3 n3).f0).f2, .bool (rd_T75 s.f2.f3 n3).f1] (fun _ => True) (fun _ => False) rfl rfl ?aP (fun _ hk => hk.elim) ?aF ?aO ?aB ?aS ?aL ?_
         (case aP => exact k75_mkM _ _ _ (mapF ids (rd_T75 s.f2.f3 n3)))
         (case aB => exact Below.refl _ _)
         (case aF => exact (fun _ _ => trivial))
         (case aO => exact HR2.out)
         (case aS => exact HT2.out.below.size)
         (case aL => have := List.length_take_le n3 s.f2.f3; rw [List.length_map]; omega)
         intro v' x4 ho hb' hg hat
         have HT4 := Aside0.mk (HT2.out.appended hb' hg (fun g cs t hc ht => Kd.R_ne HR2.out hc (by rcases ht with rfl | rfl <;> decide)))
         have HR4' := Aside0.mk ho
         have HX4 := Aside0.mk (blk_grown HX2.out hg HNV.out)
         have HE0c := Aside0.mk (Kd.R_after HE0b.out hg hat)
         have HE1c := Aside0.mk (Kd.R_after HE1b.out hg hat)
         have HE2c := Aside0.mk (Kd.R_after HE2b.out hg hat)
         clear HE0b HE1b HE2b
         clear ho hb' hg hat HT3 HR2 HX2 HX3
         obtain ⟨Av, cv, ev⟩ := Kd.R_slice HR4'.out
         rw [show (((s.f2.f3.take n3).map (mapF ids)) ++ [mapF ids (rd_T75 s.f2.f3 n3)]).length = n3 + 1 from by simp; omega] at ev
         subst ev
         refine hK.out _ _ ⟨(blk_cell HT4.out.out 5).trans rfl, (blk_cell HX4.out 0).trans rfl, (blk_cell HX4.out 1).trans rfl, (blk_cell HX4.out 2).trans rfl, (blk_cell HX4.out 3).trans rfl⟩ (fun hHeld => ?_)
         clear hK K
         refine norm_ (a' := ?_) ?_ ?_
         rotate_left; · (show Act.put _ (some 96) _ = _; simp only [Act.put, List.setIfInBounds_toArray, List.set_cons_zero, List.set_cons_succ, i64_w, i32_w]; rfl)
         refine pure_ (i := 12) (N := some 97) (v := ?_) (a' := ?_) #[true, true, true, true, true, true, true, true, true, true, true, true, true, false, false] rfl rfl (by kernel_rfl) (fun _ _ _ h => h) (Or.inl ⟨by rfl, ?_⟩) ?_ ?_
         rotate_left; · (intro w'; go_simp; with_reducible rfl)
         rotate_left; · (simp only [Act.put, List.setIfInBounds_toArray, List.set_cons_zero, List.set_cons_succ, i64_w, i32_w]; rfl)
         refine pure_ (i := 13) (N := some 98) (v := ?_) (a' := ?_) #[true, true, true, true, true, true, true, true, true, true, true, true, true, true, false] rfl rfl (by kernel_rfl) (fun _ _ _ h => h) (Or.inl ⟨by rfl, ?_⟩) ?_ ?_
         rotate_left; · (intro w'; go_simp; with_reducible rfl)
         rotate_left; · (simp only [Act.put, List.setIfInBounds_toArray, List.set_cons_zero, List.set_cons_succ, i64_w, i32_w]; rfl)
         refine last_ (i := 14) (N := none) #[true, true, true, true, true, true, true, true, true, true, true, true, true, true, true] rfl rfl (by kernel_rfl) (by decide) (fun K hK => ?_)
         have hs : x4.cell? ⟨w.heap.size + 1 + 1 + 1, 5, none⟩ = some u3 := (blk_cell HT4.out.out 5).trans rfl
         have hf := blk_frozen HT4.out.out 5
         refine skip_ (w1 := ?_) (by rfl) rfl ?_ ?_
         rotate_left
         ·
          go_simp
          rfl
         refine hK.out _ _ ?_
         clear hK K
         refine done_ (by kernel_rfl) ?_
         have HT5 := Aside0.mk (HT4.out.set5 (.slice Av (n3 + 1) cv))
         have HR5' := Aside0.mk (Kd.R_set HR4'.out HT4.out.out (by decide) 5 (.slice Av (n3 + 1) cv))
         have HE0d := Aside0.mk (Kd.R_set HE0c.out HT4.out.out (by decide) 5 (.slice Av (n3 + 1) cv))
         have HE1d := Aside0.mk (Kd.R_set HE1c.out HT4.out.out (by decide) 5 (.slice Av (n3 + 1) cv))
         have HE2d := Aside0.mk (Kd.R_set HE2c.out HT4.out.out (by decide) 5 (.slice Av (n3 + 1) cv))
         clear HE0c HE1c HE2c
         clear hs hf HT4 HR4' hHeld hx0 hx1 hx2 hx3 HX4
         go_wp2
         go_roundw
         case rel => exact ⟨n3 + 1, _, by omega, by go_num, HT5.out, by rw [take_T75 _ _ hlt, List.map_append]; exact HR5'.out, HE0d.out, HE1d.out, HE2d.out⟩
         case measure => simp [intOf]; omega
        ·
         obtain ⟨B3, N3, D3, ev⟩ : ∃ B N D, u3 = .slice B N D := by obtain ⟨B, D, e⟩ := Kd.R_slice HR.out; exact ⟨B, _, D, e⟩
         subst ev
         have HE3 := Aside0.mk (show Kd.R k75 75 wr w.heap.size (fun _ => True) (.slice B3 N3 D3) (s.f2.f3.map (mapF ids)) by have h := HR.out; rw [List.take_of_length_le (by omega)] at h; exact h)
         replace HE0 := Aside0.mk (Kd.R_mono HE0.out (fun _ h => h.1))
         replace HE1 := Aside0.mk (Kd.R_mono HE1.out (fun _ h => h.1))
         replace HE2 := Aside0.mk (Kd.R_mono HE2.out (fun _ h => h.1))
         clear HR
         have ho0 : wr.cell? ⟨w.heap.size + 1 + 1 + 1, 0, none⟩ = some (.bool s.f0) := (blk_cell HT.out.out 0).trans rfl
         have ho1 : wr.cell? ⟨w.heap.size + 1 + 1 + 1, 1, none⟩ = some (.slice B0 N0 D0) := (blk_cell HT.out.out 1).trans rfl
         have ho2 : wr.cell? ⟨w.heap.size + 1 + 1 + 1, 2, none⟩ = some (.int .i64 s.f2.f0) := (blk_cell HT.out.out 2).trans rfl
         have ho3 : wr.cell? ⟨w.heap.size + 1 + 1 + 1, 3, none⟩ = some (.slice B1 N1 D1) := (blk_cell HT.out.out 3).trans rfl
         have ho4 : wr.cell? ⟨w.heap.size + 1 + 1 + 1, 4, none⟩ = some (.slice B2 N2 D2) := (blk_cell HT.out.out 4).trans rfl
         have ho5 : wr.cell? ⟨w.heap.size + 1 + 1 + 1, 5, none⟩ = some (.slice B3 N3 D3) := (blk_cell HT.out.out 5).trans rfl
         have hr0 : wr.cell? ⟨w.heap.size + 1 + 1, 0, none⟩ = some (.bool false) := (blk_cell HT.out.res 0).trans rfl
         have hr1 : wr.cell? ⟨w.heap.size + 1 + 1, 1, none⟩ = some (.slice none 0 0) := (blk_cell HT.out.res 1).trans rfl
         have hr2 : wr.cell? ⟨w.heap.size + 1 + 1, 2, none⟩ = some (.int .i64 0) := (blk_cell HT.out.res 2).trans rfl
         have hr3 : wr.cell? ⟨w.heap.size + 1 + 1, 3, none⟩ = some (.slice none 0 0) := (blk_cell HT.out.res 3).trans rfl
         have hr4 : wr.cell? ⟨w.heap.size + 1 + 1, 4, none⟩ = some (.slice none 0 0) := (blk_cell HT.out.res 4).trans rfl
         have hr5 : wr.cell? ⟨w.heap.size + 1 + 1, 5, none⟩ = some (.slice none 0 0) := (blk_cell HT.out.res 5).trans rfl
         have hf0 := blk_frozen HT.out.res 0
         have hf1 := blk_frozen HT.out.res 1
         have hf2 := blk_frozen HT.out.res 2
         have hf3 := blk_frozen HT.out.res 3
         have hf4 := blk_frozen HT.out.res 4
         have hf5 := blk_frozen HT.out.res 5
         go_wp2
         refine bodyPost_ret (results_cell_row rfl _ _ (w.heap.size + 1 + 1) 41 #[.bool s.f0, .slice B0 N0 D0, .int .i64 s.f2.f0, .slice B1 N1 D1, .slice B2 N2 D2, .slice B3 N3 D3] (0, 0) _ rfl (by refine blk_put (cs := #[.bool s.f0, .slice B0 N0 D0, .int .i64 s.f2.f0, .slice B1 N1 D1, .slice B2 N2 D2, .slice none 0 0]) ?_ 5 _ rfl; refine blk_put (cs := #[.bool s.f0, .slice B0 N0 D0, .int .i64 s.f2.f0, .slice B1 N1 D1, .slice none 0 0, .slice none 0 0]) ?_ 4 _ rfl; refine blk_put (cs := #[.bool s.f0, .slice B0 N0 D0, .int .i64 s.f2.f0, .slice none 0 0, .slice none 0 0, .slice none 0 0]) ?_ 3 _ rfl; refine blk_put (cs := #[.bool s.f0, .slice B0 N0 D0, .int .i64 0, .slice none 0 0, .slice none 0 0, .slice none 0 0]) ?_ 2 _ rfl; refine blk_put (cs := #[.bool s.f0, .slice none 0 0, .int .i64 0, .slice none 0 0, .slice none 0 0, .slice none 0 0]) ?_ 1 _ rfl; refine blk_put (cs := #[.bool false, .slice none 0 0, .int .i64 0, .slice none 0 0, .slice none 0 0, .slice none 0 0]) ?_ 0 _ rfl; exact HT.out.res) Tryd.underlying41 rfl (by kernel_rfl)) rfl ?_
         refine ⟨_, _, _, _, rfl, k41_mkM _ _ _ (mapS ids s) ?_ ?_ ?_ ?_, ?_⟩
         · exact Kd.R_set (Kd.R_set (Kd.R_set (Kd.R_set (Kd.R_set (Kd.R_set (HE0.out) (HT.out.res) (by decide) 0 _) (blk_set (HT.out.res) 0 _) (by decide) 1 _) (blk_set (blk_set (HT.out.res) 0 _) 1 _) (by decide) 2 _) (blk_set (blk_set (blk_set (HT.out.res) 0 _) 1 _) 2 _) (by decide) 3 _) (blk_set (blk_set (blk_set (blk_set (HT.out.res) 0 _) 1 _) 2 _) 3 _) (by decide) 4 _) (blk_set (blk_set (blk_set (blk_set (blk_set (HT.out.res) 0 _) 1 _) 2 _) 3 _) 4 _) (by decide) 5 _
         · exact Kd.R_set (Kd.R_set (Kd.R_set (Kd.R_set (Kd.R_set (Kd.R_set (HE1.out) (HT.out.res) (by decide) 0 _) (blk_set (HT.out.res) 0 _) (by decide) 1 _) (blk_set (blk_set (HT.out.res) 0 _) 1 _) (by decide) 2 _) (blk_set (blk_set (blk_set (HT.out.res) 0 _) 1 _) 2 _) (by decide) 3 _) (blk_set (blk_set (blk_set (blk_set (HT.out.res) 0 _) 1 _) 2 _) 3 _) (by decide) 4 _) (blk_set (blk_set (blk_set (blk_set (blk_set (HT.out.res) 0 _) 1 _) 2 _) 3 _) 4 _) (by decide) 5 _
         · exact Kd.R_set (Kd.R_set (Kd.R_set (Kd.R_set (Kd.R_set (Kd.R_set (HE2.out) (HT.out.res) (by decide) 0 _) (blk_set (HT.out.res) 0 _) (by decide) 1 _) (blk_set (blk_set (HT.out.res) 0 _) 1 _) (by decide) 2 _) (blk_set (blk_set (blk_set (HT.out.res) 0 _) 1 _) 2 _) (by decide) 3 _) (blk_set (blk_set (blk_set (blk_set (HT.out.res) 0 _) 1 _) 2 _) 3 _) (by decide) 4 _) (blk_set (blk_set (blk_set (blk_set (blk_set (HT.out.res) 0 _) 1 _) 2 _) 3 _) 4 _) (by decide) 5 _
         · exact Kd.R_set (Kd.R_set (Kd.R_set (Kd.R_set (Kd.R_set (Kd.R_set (HE3.out) (HT.out.res) (by decide) 0 _) (blk_set (HT.out.res) 0 _) (by decide) 1 _) (blk_set (blk_set (HT.out.res) 0 _) 1 _) (by decide) 2 _) (blk_set (blk_set (blk_set (HT.out.res) 0 _) 1 _) 2 _) (by decide) 3 _) (blk_set (blk_set (blk_set (blk_set (HT.out.res) 0 _) 1 _) 2 _) 3 _) (by decide) 4 _) (blk_set (blk_set (blk_set (blk_set (blk_set (HT.out.res) 0 _) 1 _) 2 _) 3 _) 4 _) (by decide) 5 _
         · exact below_set (below_set (below_set (below_set (below_set (below_set (HT.out.below) (by show _ ≤ w.heap.size + 1 + 1; omega)) (by show _ ≤ w.heap.size + 1 + 1; omega)) (by show _ ≤ w.heap.size + 1 + 1; omega)) (by show _ ≤ w.heap.size + 1 + 1; omega)) (by show _ ≤ w.heap.size + 1 + 1; omega)) (by show _ ≤ w.heap.size + 1 + 1; omega)
end Go.Proofs.YtbobgajkboanfaaDoor.B3
