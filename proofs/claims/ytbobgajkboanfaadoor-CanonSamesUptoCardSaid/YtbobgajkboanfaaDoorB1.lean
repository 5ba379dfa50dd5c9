/- The walk of types.turned, as types.Closed calls it: each number of the type is put to its closure, in order; the rest is new memory. -/
import Derived.Test.YtbobgajkboanfaaDoorM1
namespace Go.Proofs.YtbobgajkboanfaaDoor.B1
open Go.RowKit Go.Proofs.YtbobgajkboanfaaDoorW.PrintWords Go.Proofs.YtbobgajkboanfaaDoorW.PrintLast Go.Proofs.YtbobgajkboanfaaDoor.PCanonSames
open A1 A2 A3 B0
set_option linter.unusedVariables false
set_option linter.unusedSimpArgs false

def okS (en : Int) (s : S41) : Bool := s.f1.all (okH en) && (s.f2.f1.all (okV en) && (s.f2.f2.all (okV en) && s.f2.f3.all (fun f => okV en f.f0)))

set_option maxHeartbeats 8000000 in
set_option maxRecDepth 100000 in
theorem turned (s : S41) (A1 A3 A4 A5 : Option Addr) (k1 k3 k4 k5 : Nat) (en : Int) (ok : Bool) (bo be : Nat) (w0 w : World)
 (hb0 : Below w0.heap.size w0 w) (hl0 : w0.heap.size ≤ bo)
 (hr1 : (Kd.int .i64).C w0 A1 s.f1.length s.f1) (hr3 : k72.C w0 A3 s.f2.f1.length s.f2.f1) (hr4 : k72.C w0 A4 s.f2.f2.length s.f2.f2) (hr5 : k75.C w0 A5 s.f2.f3.length s.f2.f3)
 (m1 : s.f1.length ≤ 1048576) (m3 : s.f2.f1.length ≤ 1048576) (m4 : s.f2.f2.length ≤ 1048576) (m5 : s.f2.f3.length ≤ 1048576)
 (hbo : w.heap[bo]? = some (.cells #[.bool ok] 4 (0, 0))) (hbe : w.heap[be]? = some (.cells #[.int .i64 en] 3 (0, 0))) :
 Calls Tryd.prog 15 #[.agg #[.bool s.f0, .slice A1 s.f1.length k1, .int .i64 s.f2.f0, .slice A3 s.f2.f1.length k3, .slice A4 s.f2.f2.length k4, .slice A5 s.f2.f3.length k5], .func (.func 16) #[] #[.pointer (some ⟨bo, 0, none⟩), .pointer (some ⟨be, 0, none⟩)]] w
  fun e w' => ∃ V, e = .returned V ∧ w.grownBy w' (some bo) ∧ w'.heap[bo]? = some (.cells #[.bool (ok && okS en s)] 4 (0, 0)) := by
 have HNE := Aside0.mk (blk_ne hbo hbe (by decide))
 have HLB := Aside0.mk (blk_lt hbo)
 have HBO := Aside0.mk hbo
 have HBE := Aside0.mk hbe
 have HR1 := Aside0.mk hr1
 have HR3 := Aside0.mk hr3
 have HR4 := Aside0.mk hr4
 have HR5 := Aside0.mk hr5
 have H0 := Aside0.mk hb0
 have HL0 := Aside0.mk hl0
 clear hbo hbe hr1 hr3 hr4 hr5 hb0 hl0
 have hmf : ∀ (fn : Fn) (first cap : Array Value) (w : World), (Instr.makeFunc fn first cap).run Tryd.prog w = .ok (.func fn first cap) w := fun _ _ _ _ => rfl
 go_enter Tryd.func15, Tryd.ntmps15
 go_wp2
 go_loopw [26] (fun v26 wr => ∃ (n0 : Nat) (u0 : Value), n0 ≤ s.f1.length ∧ v26 = .int .i64 n0 ∧ TInv w bo (.bool s.f0) (.slice A1 s.f1.length k1) (.int .i64 s.f2.f0) (.slice A3 s.f2.f1.length k3) (.slice A4 s.f2.f2.length k4) (.slice A5 s.f2.f3.length k5) (.func (.func 16) #[] #[.pointer (some ⟨bo, 0, none⟩), .pointer (some ⟨be, 0, none⟩)]) (ok && (s.f1.take n0).all (okH en)) (u0) (.slice none 0 0) (.slice none 0 0) (.slice none 0 0) wr ∧ Kd.R (Kd.int .i64) 3 wr w.heap.size (fun _ => True) u0 (s.f1.take n0)) (fun v26 _ => s.f1.length - (intOf v26).toNat)
 case atStart =>
  have f4 := four w (.cells #[.bool s.f0, .slice A1 s.f1.length k1, .int .i64 s.f2.f0, .slice A3 s.f2.f1.length k3, .slice A4 s.f2.f2.length k4, .slice A5 s.f2.f3.length k5] 41) (.cells #[.func (.func 16) #[] #[.pointer (some ⟨bo, 0, none⟩), .pointer (some ⟨be, 0, none⟩)]] 62) (.cells #[.bool false, .slice none 0 0, .int .i64 0, .slice none 0 0, .slice none 0 0, .slice none 0 0] 41) (.cells #[.bool s.f0, .slice none 0 0, .int .i64 s.f2.f0, .slice none 0 0, .slice none 0 0, .slice none 0 0] 41)
  exact ⟨0, .slice none 0 0, Nat.zero_le _, rfl, ⟨grown_alloc (grown_alloc (grown_alloc (grown_alloc (grown_refl _ _) _) _) _) _, by rw [List.take_zero, List.all_nil, Bool.and_true]; exact blk_alloc (blk_alloc (blk_alloc (blk_alloc HBO.out _) _) _) _, f4.1, f4.2.1, f4.2.2.2, f4.2.2.1⟩, Kd.R_nil _ _ _ _ _⟩
 case round =>
  obtain ⟨n0, u0, hk, rfl, hT, hR⟩ := hrel
  have HT := Aside0.mk hT
  have HR := Aside0.mk hR
  clear hT hR
  by_cases hlt : n0 < s.f1.length
  ·
   have i0 : (0 : Int) ≤ (n0 : Int) := Int.natCast_nonneg _
   have i1 : (n0 : Int) < (s.f1.length : Int) := by omega
   obtain ⟨ad, eA, hx⟩ := Kd.at_int HR1.out (n0 : Int) i0 i1
   cases eA
   replace hx := cell0 H0.out HL0.out HT.out.grown hx
   rw [Int.toNat_natCast] at hx
   go_wp2
   have HT1 := Aside0.mk HT.out.drew
   have HR1' := Aside0.mk (Kd.R_drew HR.out)
   clear HT HR
   refine start_ (n := 9) (S := fun w' => w'.cell? ⟨w.heap.size + 1 + 1 + 1, 1, none⟩ = some u0 ∧ w'.cell? ⟨w.heap.size + 1, 0, none⟩ = some (.func (.func 16) #[] #[.pointer (some ⟨bo, 0, none⟩), .pointer (some ⟨be, 0, none⟩)])) (ds := [8]) #[false, false, false, false, false, false, false, false, false] (by kernel_rfl) rfl rfl ⟨(blk_cell HT1.out.out 1).trans rfl, (blk_cell HT1.out.fun_ 0).trans rfl⟩ (fun hHeld => ?_)
   generalize wr.drew = x1 at HT1 HR1' hHeld ⊢
   refine pure_ (i := 0) (N := some 30) (v := ?_) (a' := ?_) #[true, false, false, false, false, false, false, false, false] rfl rfl (by kernel_rfl) (fun _ _ _ h => h) (Or.inl ⟨by rfl, ?_⟩) ?_ ?_
   rotate_left; · (intro w'; go_simp; with_reducible rfl)
   rotate_left; · (simp only [Act.put, List.setIfInBounds_toArray, List.set_cons_zero, List.set_cons_succ, i64_w, i32_w]; rfl)
   refine pure_ (i := 3) (N := some 33) (v := ?_) (a' := ?_) #[true, false, false, true, false, false, false, false, false] rfl rfl (by kernel_rfl) (fun _ _ _ h => h) (Or.inl ⟨by rfl, ?_⟩) ?_ ?_
   rotate_left; · (intro w'; go_simp; with_reducible rfl)
   rotate_left; · (simp only [Act.put, List.setIfInBounds_toArray, List.set_cons_zero, List.set_cons_succ, i64_w, i32_w]; rfl)
   refine take_ (i := 1) (N := some 31) (v := ?_) (a' := ?_) #[true, true, false, true, false, false, false, false, false] rfl rfl (by kernel_rfl) (fun _ _ _ h => h) (Or.inl ⟨by rfl, ?_⟩) hHeld ?_ ?_
   rotate_left; · (rintro w' ⟨s0, s1⟩; go_simp; with_reducible rfl)
   rotate_left; · (simp only [Act.put, List.setIfInBounds_toArray, List.set_cons_zero, List.set_cons_succ, i64_w, i32_w]; rfl)
   refine take_ (i := 2) (N := some 32) (v := ?_) (a' := ?_) #[true, true, true, true, false, false, false, false, false] rfl rfl (by kernel_rfl) (fun _ _ _ h => h) (Or.inl ⟨by rfl, ?_⟩) hHeld ?_ ?_
   rotate_left; · (rintro w' ⟨s0, s1⟩; go_simp; with_reducible rfl)
   rotate_left; · (simp only [Act.put, List.setIfInBounds_toArray, List.set_cons_zero, List.set_cons_succ, i64_w, i32_w]; rfl)
   refine one_ (i := 4) (N := some 34) #[true, true, true, true, true, false, false, false, false] rfl rfl (by kernel_rfl) (by decide) (fun K hK => ?_)
   refine goesV_ (t := 32) Tryd.func16 (by kernel_rfl) rfl #[.int .i64 (rd s.f1 n0)] #[.int .i64 (rd s.f1 n0), .pointer (some ⟨bo, 0, none⟩), .pointer (some ⟨be, 0, none⟩)] (by rfl) rfl rfl (by rfl) (by (try simp only [List.map_toArray, List.map_cons, List.map_nil]); first | done | rfl) (by rfl) ?_
   refine (closed1 (rd s.f1 n0) en _ bo be _ HNE.out ((blk_cell HT1.out.flag 0).trans rfl) (blk_frozen HT1.out.flag 0) ((blk_cell (HT1.out.grown.block be (blk_lt HBE.out) (by intro e; injection e with e; exact HNE.out e.symm) |>.trans HBE.out) 0).trans rfl)).mono ?_
   rintro e x2 ⟨rfl, hx2⟩
   refine ⟨_, rfl, ?_⟩
   have HT2 := Aside0.mk (hx2 ▸ HT1.out.flagged HLB.out ((ok && (s.f1.take n0).all (okH en)) && okH en (rd s.f1 n0)))
   have HR2 := Aside0.mk (hx2 ▸ Kd.R_set HR1'.out HT1.out.flag (by decide) 0 (.bool ((ok && (s.f1.take n0).all (okH en)) && okH en (rd s.f1 n0))))
   clear hx2 HT1 HR1'
   refine hK.out _ _ ⟨(blk_cell HT2.out.out 1).trans rfl, (blk_cell HT2.out.fun_ 0).trans rfl⟩ (fun hHeld => ?_)
   clear hK K
   refine norm_ (a' := ?_) ?_ ?_
   rotate_left; · (show Act.put _ (some 34) _ = _; simp only [Act.put, List.setIfInBounds_toArray, List.set_cons_zero, List.set_cons_succ, i64_w, i32_w]; rfl)
   refine one_ (i := 5) (N := some 35) #[true, true, true, true, true, true, false, false, false] rfl rfl (by kernel_rfl) (by decide) (fun K hK => ?_)
   refine value_ (w1 := ?_) (v := ?_) (by rfl) rfl ?_ ?_
   rotate_left 2
   ·
    go_simp
    constructor
    · rfl
    · rfl
   have HT3 := Aside0.mk (HT2.out.same HLB.out (below_alloc (Below.refl _ _) (.cells #[.int .i64 (rd s.f1 n0)] 3)))
   refine hK.out _ _ ⟨(blk_cell HT3.out.out 1).trans rfl, (blk_cell HT3.out.fun_ 0).trans rfl⟩ (fun hHeld => ?_)
   clear hK K
   refine norm_ (a' := ?_) ?_ ?_
   rotate_left; · (show Act.put _ (some 35) _ = _; simp only [Act.put, List.setIfInBounds_toArray, List.set_cons_zero, List.set_cons_succ, i64_w, i32_w]; rfl)
   refine one_ (i := 6) (N := some 36) #[true, true, true, true, true, true, true, false, false] rfl rfl (by kernel_rfl) (by decide) (fun K hK => ?_)
   refine Kd.R_append_step (Kd.int .i64) (w0 := x2) w.heap.size (by rfl) (.tmp 31) (.tmp 35) 35 3 (.int .i64 0) 8 rfl Tryd.underlying35 info3 rfl (by decide) (by omega) u0 (s.f1.take n0) (rd s.f1 n0) [.int .i64 (rd s.f1 n0)] (fun _ => True) (fun _ => False) rfl rfl ?aP (fun _ hk => hk.elim) ?aF ?aO ?aB ?aS ?aL ?_
   (case aP => exact rfl)
   (case aB => exact Below.refl _ _)
   (case aF => exact (fun _ _ => trivial))
   (case aO => exact HR2.out)
   (case aS => exact HT2.out.grown.size)
   (case aL => have := List.length_take_le n0 s.f1; omega)
   intro v' x4 ho hb hg hat
   have HT4 := Aside0.mk (HT2.out.appended HLB.out hb hg (fun g cs t hc ht => Kd.R_ne HR2.out hc (by rcases ht with rfl | rfl <;> decide)))
   have HR4' := Aside0.mk ho
   clear ho hb hg hat HT3 HR2
   obtain ⟨Av, cv, ev⟩ := Kd.R_slice HR4'.out
   rw [show ((s.f1.take n0) ++ [rd s.f1 n0]).length = n0 + 1 from by simp; omega] at ev
   subst ev
   refine hK.out _ _ ⟨(blk_cell HT4.out.out 1).trans rfl, (blk_cell HT4.out.fun_ 0).trans rfl⟩ (fun hHeld => ?_)
   clear hK K
   refine norm_ (a' := ?_) ?_ ?_
   rotate_left; · (show Act.put _ (some 36) _ = _; simp only [Act.put, List.setIfInBounds_toArray, List.set_cons_zero, List.set_cons_succ, i64_w, i32_w]; rfl)
   refine pure_ (i := 7) (N := some 37) (v := ?_) (a' := ?_) #[true, true, true, true, true, true, true, true, false] rfl rfl (by kernel_rfl) (fun _ _ _ h => h) (Or.inl ⟨by rfl, ?_⟩) ?_ ?_
   rotate_left; · (intro w'; go_simp; with_reducible rfl)
   rotate_left; · (simp only [Act.put, List.setIfInBounds_toArray, List.set_cons_zero, List.set_cons_succ, i64_w, i32_w]; rfl)
   refine last_ (i := 8) (N := none) #[true, true, true, true, true, true, true, true, true] rfl rfl (by kernel_rfl) (by decide) (fun K hK => ?_)
   have hs : x4.cell? ⟨w.heap.size + 1 + 1 + 1, 1, none⟩ = some u0 := (blk_cell HT4.out.out 1).trans rfl
   have hf := blk_frozen HT4.out.out 1
   refine skip_ (w1 := ?_) (by rfl) rfl ?_ ?_
   rotate_left
   ·
    go_simp
    rfl
   refine hK.out _ _ ?_
   clear hK K
   refine done_ (by kernel_rfl) ?_
   have HT5 := Aside0.mk (HT4.out.set1 HLB.out (.slice Av (n0 + 1) cv))
   have HR5' := Aside0.mk (Kd.R_set HR4'.out HT4.out.out (by decide) 1 (.slice Av (n0 + 1) cv))
   clear hs hf HT4 HR4' hHeld hx
   go_wp2
   go_roundw
   case rel => exact ⟨n0 + 1, _, by omega, by go_num, by rw [take_rd _ _ hlt, ← all_snoc]; exact HT5.out, by rw [take_rd _ _ hlt]; exact HR5'.out⟩
   case measure => simp [intOf]; omega
  ·
   obtain ⟨o1, ho⟩ : ∃ o, o = (ok && s.f1.all (okH en)) := ⟨_, rfl⟩
   have HO1 := Aside0.mk ho
   obtain ⟨B0, N0, D0, ev⟩ : ∃ B N D, u0 = .slice B N D := by obtain ⟨B, D, e⟩ := Kd.R_slice HR.out; exact ⟨B, _, D, e⟩
   subst ev
   replace HT := Aside0.mk (show TInv w bo (.bool s.f0) (.slice A1 s.f1.length k1) (.int .i64 s.f2.f0) (.slice A3 s.f2.f1.length k3) (.slice A4 s.f2.f2.length k4) (.slice A5 s.f2.f3.length k5) (.func (.func 16) #[] #[.pointer (some ⟨bo, 0, none⟩), .pointer (some ⟨be, 0, none⟩)]) (o1) (.slice B0 N0 D0) (.slice none 0 0) (.slice none 0 0) (.slice none 0 0) wr by have h := HT.out; rw [List.take_of_length_le (by omega), ← ho] at h; exact h)
   clear ho HR
   have hb : wr.cell? ⟨w.heap.size, 3, none⟩ = some (.slice A3 s.f2.f1.length k3) := (blk_cell HT.out.box 3).trans rfl
   go_wp2
   go_loopw [43] (fun v43 wr => ∃ (n1 : Nat) (u1 : Value), n1 ≤ s.f2.f1.length ∧ v43 = .int .i64 n1 ∧ TInv w bo (.bool s.f0) (.slice A1 s.f1.length k1) (.int .i64 s.f2.f0) (.slice A3 s.f2.f1.length k3) (.slice A4 s.f2.f2.length k4) (.slice A5 s.f2.f3.length k5) (.func (.func 16) #[] #[.pointer (some ⟨bo, 0, none⟩), .pointer (some ⟨be, 0, none⟩)]) (o1 && (s.f2.f1.take n1).all (okV en)) (.slice B0 N0 D0) (u1) (.slice none 0 0) (.slice none 0 0) wr ∧ Kd.R k72 72 wr w.heap.size (fun _ => True) u1 (s.f2.f1.take n1)) (fun v43 _ => s.f2.f1.length - (intOf v43).toNat)
   case atStart =>
    exact ⟨0, .slice none 0 0, Nat.zero_le _, rfl, by rw [List.take_zero, List.all_nil, Bool.and_true]; exact HT.out, Kd.R_nil _ _ _ _ _⟩
   case round =>
    clear HT hb
    obtain ⟨n1, u1, hk, rfl, hT, hR⟩ := hrel
    have HT := Aside0.mk hT
    have HR := Aside0.mk hR
    clear hT hR
    by_cases hlt : n1 < s.f2.f1.length
    ·
     have i0 : (0 : Int) ≤ (n1 : Int) := Int.natCast_nonneg _
     have i1 : (n1 : Int) < (s.f2.f1.length : Int) := by omega
     obtain ⟨ad, eA, hx0, hx1, hx2⟩ := at_T72 HR3.out (n1 : Int) i0 i1
     cases eA
     replace hx0 := cell0 H0.out HL0.out HT.out.grown hx0
     rw [Int.toNat_natCast] at hx0
     replace hx1 := cell0 H0.out HL0.out HT.out.grown hx1
     rw [Int.toNat_natCast] at hx1
     replace hx2 := cell0 H0.out HL0.out HT.out.grown hx2
     rw [Int.toNat_natCast] at hx2
     go_wp2
     have HLX := Aside0.mk (Nat.ne_of_lt (Nat.lt_of_lt_of_le HLB.out HT.out.grown.size))
     have HNV := Aside0.mk (R_ne_size HR.out)
     have HT1 := Aside0.mk ((HT.out.same HLB.out (below_alloc (Below.refl _ _) (.cells #[.int .i64 (rd_T72 s.f2.f1 n1).f0, .bool (rd_T72 s.f2.f1 n1).f1, .int .i64 (rd_T72 s.f2.f1 n1).f2] 72))).drew)
     have HR1' := Aside0.mk (Kd.R_drew (Kd.R_alloc HR.out (.cells #[.int .i64 (rd_T72 s.f2.f1 n1).f0, .bool (rd_T72 s.f2.f1 n1).f1, .int .i64 (rd_T72 s.f2.f1 n1).f2] 72)))
     have HX := Aside0.mk (blk_drew (blk_new wr (.cells #[.int .i64 (rd_T72 s.f2.f1 n1).f0, .bool (rd_T72 s.f2.f1 n1).f1, .int .i64 (rd_T72 s.f2.f1 n1).f2] 72)))
     clear HT HR
     refine start_ (n := 11) (S := fun w' => w'.cell? ⟨w.heap.size + 1 + 1 + 1, 3, none⟩ = some u1 ∧ w'.cell? ⟨wr.heap.size, 0, none⟩ = some (.int .i64 (rd_T72 s.f2.f1 n1).f0) ∧ w'.cell? ⟨wr.heap.size, 1, none⟩ = some (.bool (rd_T72 s.f2.f1 n1).f1) ∧ w'.cell? ⟨wr.heap.size, 2, none⟩ = some (.int .i64 (rd_T72 s.f2.f1 n1).f2)) (ds := [10]) #[false, false, false, false, false, false, false, false, false, false, false] (by kernel_rfl) rfl rfl ⟨(blk_cell HT1.out.out 3).trans rfl, (blk_cell HX.out 0).trans rfl, (blk_cell HX.out 1).trans rfl, (blk_cell HX.out 2).trans rfl⟩ (fun hHeld => ?_)
     generalize (wr.alloc (.cells #[.int .i64 (rd_T72 s.f2.f1 n1).f0, .bool (rd_T72 s.f2.f1 n1).f1, .int .i64 (rd_T72 s.f2.f1 n1).f2] 72)).drew = x1 at HT1 HR1' HX hHeld ⊢
     refine pure_ (i := 0) (N := some 47) (v := ?_) (a' := ?_) #[true, false, false, false, false, false, false, false, false, false, false] rfl rfl (by kernel_rfl) (fun _ _ _ h => h) (Or.inl ⟨by rfl, ?_⟩) ?_ ?_
     rotate_left; · (intro w'; go_simp; with_reducible rfl)
     rotate_left; · (simp only [Act.put, List.setIfInBounds_toArray, List.set_cons_zero, List.set_cons_succ, i64_w, i32_w]; rfl)
     refine pure_ (i := 1) (N := some 48) (v := ?_) (a' := ?_) #[true, true, false, false, false, false, false, false, false, false, false] rfl rfl (by kernel_rfl) (fun _ _ _ h => h) (Or.inl ⟨by rfl, ?_⟩) ?_ ?_
     rotate_left; · (intro w'; go_simp; with_reducible rfl)
     rotate_left; · (simp only [Act.put, List.setIfInBounds_toArray, List.set_cons_zero, List.set_cons_succ, i64_w, i32_w]; rfl)
     refine pure_ (i := 3) (N := some 50) (v := ?_) (a' := ?_) #[true, true, false, true, false, false, false, false, false, false, false] rfl rfl (by kernel_rfl) (fun _ _ _ h => h) (Or.inl ⟨by rfl, ?_⟩) ?_ ?_
     rotate_left; · (intro w'; go_simp; with_reducible rfl)
     rotate_left; · (simp only [Act.put, List.setIfInBounds_toArray, List.set_cons_zero, List.set_cons_succ, i64_w, i32_w]; rfl)
     refine take_ (i := 2) (N := some 49) (v := ?_) (a' := ?_) #[true, true, true, true, false, false, false, false, false, false, false] rfl rfl (by kernel_rfl) (fun _ _ _ h => h) (Or.inl ⟨by rfl, ?_⟩) hHeld ?_ ?_
     rotate_left; · (rintro w' ⟨s0, s1, s2, s3⟩; go_simp; with_reducible rfl)
     rotate_left; · (simp only [Act.put, List.setIfInBounds_toArray, List.set_cons_zero, List.set_cons_succ, i64_w, i32_w]; rfl)
     refine take_ (i := 4) (N := some 51) (v := ?_) (a' := ?_) #[true, true, true, true, true, false, false, false, false, false, false] rfl rfl (by kernel_rfl) (fun _ _ _ h => h) (Or.inl ⟨by rfl, ?_⟩) hHeld ?_ ?_
     rotate_left; · (rintro w' ⟨s0, s1, s2, s3⟩; go_simp; with_reducible rfl)
     rotate_left; · (simp only [Act.put, List.setIfInBounds_toArray, List.set_cons_zero, List.set_cons_succ, i64_w, i32_w]; rfl)
     refine one_ (i := 5) (N := some 52) #[true, true, true, true, true, true, false, false, false, false, false] rfl rfl (by kernel_rfl) (by decide) (fun K hK => ?_)
     refine goesV_ (t := 50) Tryd.func22 (by kernel_rfl) rfl #[.agg #[.int .i64 (rd_T72 s.f2.f1 n1).f0, .bool (rd_T72 s.f2.f1 n1).f1, .int .i64 (rd_T72 s.f2.f1 n1).f2]] #[.agg #[.int .i64 (rd_T72 s.f2.f1 n1).f0, .bool (rd_T72 s.f2.f1 n1).f1, .int .i64 (rd_T72 s.f2.f1 n1).f2], .pointer (some ⟨w.heap.size + 1, 0, none⟩)] (by rfl) rfl rfl (by rfl) (by (try simp only [List.map_toArray, List.map_cons, List.map_nil]); first | done | rfl) (by rfl) ?_
     refine (turned1 (rd_T72 s.f2.f1 n1) en (o1 && (s.f2.f1.take n1).all (okV en)) _ bo be _ ((blk_cell HT1.out.fun_ 0).trans rfl) HT1.out.flag (HT1.out.grown.block be (blk_lt HBE.out) (by intro e; injection e with e; exact HNE.out e.symm) |>.trans HBE.out)).mono ?_
     rintro e x2 ⟨rfl, hg2, hf2⟩
     refine ⟨_, rfl, ?_⟩
     have HT2 := Aside0.mk (HT1.out.turned HLB.out hg2 hf2)
     have HR2 := Aside0.mk (Kd.R_mono (Kd.R_grown (Kd.R_types HR1'.out HT1.out.flag (by decide)) hg2 (fun _ hk e => hk.2 (by injection e))) (fun _ _ => trivial))
     have HX2 := Aside0.mk (blk_grown HX.out hg2 (by intro e; injection e with e; exact HLX.out e.symm))
     clear hg2 hf2 HT1 HR1' HX
     refine hK.out _ _ ⟨(blk_cell HT2.out.out 3).trans rfl, (blk_cell HX2.out 0).trans rfl, (blk_cell HX2.out 1).trans rfl, (blk_cell HX2.out 2).trans rfl⟩ (fun hHeld => ?_)
     clear hK K
     refine norm_ (a' := ?_) ?_ ?_
     rotate_left; · (show Act.put _ (some 52) _ = _; simp only [Act.put, List.setIfInBounds_toArray, List.set_cons_zero, List.set_cons_succ, i64_w, i32_w]; rfl)
     refine one_ (i := 6) (N := some 53) #[true, true, true, true, true, true, true, false, false, false, false] rfl rfl (by kernel_rfl) (by decide) (fun K hK => ?_)
     refine value_ (w1 := ?_) (v := ?_) (by rfl) rfl ?_ ?_
     rotate_left 2
     ·
      go_simp
      constructor
      · rfl
      · rfl
     have HT3 := Aside0.mk (HT2.out.same HLB.out (below_alloc (Below.refl _ _) (.cells #[.int .i64 (rd_T72 s.f2.f1 n1).f0, .bool (rd_T72 s.f2.f1 n1).f1, .int .i64 (rd_T72 s.f2.f1 n1).f2] 72)))
     have HX3 := Aside0.mk (blk_alloc HX2.out (.cells #[.int .i64 (rd_T72 s.f2.f1 n1).f0, .bool (rd_T72 s.f2.f1 n1).f1, .int .i64 (rd_T72 s.f2.f1 n1).f2] 72))
     refine hK.out _ _ ⟨(blk_cell HT3.out.out 3).trans rfl, (blk_cell HX3.out 0).trans rfl, (blk_cell HX3.out 1).trans rfl, (blk_cell HX3.out 2).trans rfl⟩ (fun hHeld => ?_)
     clear hK K
     refine norm_ (a' := ?_) ?_ ?_
     rotate_left; · (show Act.put _ (some 53) _ = _; simp only [Act.put, List.setIfInBounds_toArray, List.set_cons_zero, List.set_cons_succ, i64_w, i32_w]; rfl)
     refine one_ (i := 7) (N := some 54) #[true, true, true, true, true, true, true, true, false, false, false] rfl rfl (by kernel_rfl) (by decide) (fun K hK => ?_)
     refine Kd.R_append_step k72 (w0 := x2) w.heap.size (by rfl) (.tmp 49) (.tmp 53) 36 72 (.agg #[(.int .i64 0), (.bool false), (.int .i64 0)]) 24 rfl Tryd.underlying36 info72 rfl (by decide) (by omega) u1 (s.f2.f1.take n1) (rd_T72 s.f2.f1 n1) [.int .i64 (rd_T72 s.f2.f1 n1).f0, .bool (rd_T72 s.f2.f1 n1).f1, .int .i64 (rd_T72 s.f2.f1 n1).f2] (fun _ => True) (fun _ => False) rfl rfl ?aP (fun _ hk => hk.elim) ?aF ?aO ?aB ?aS ?aL ?_
     (case aP => exact k72_mkM _ _ _ _)
     (case aB => exact Below.refl _ _)
     (case aF => exact (fun _ _ => trivial))
     (case aO => exact HR2.out)
     (case aS => exact HT2.out.grown.size)
     (case aL => have := List.length_take_le n1 s.f2.f1; omega)
     intro v' x4 ho hb hg hat
     have HT4 := Aside0.mk (HT2.out.appended HLB.out hb hg (fun g cs t hc ht => Kd.R_ne HR2.out hc (by rcases ht with rfl | rfl <;> decide)))
     have HR4' := Aside0.mk ho
     have HX4 := Aside0.mk (blk_grown HX2.out hg HNV.out)
     clear ho hb hg hat HT3 HR2 HX2 HX3
     obtain ⟨Av, cv, ev⟩ := Kd.R_slice HR4'.out
     rw [show ((s.f2.f1.take n1) ++ [rd_T72 s.f2.f1 n1]).length = n1 + 1 from by simp; omega] at ev
     subst ev
     refine hK.out _ _ ⟨(blk_cell HT4.out.out 3).trans rfl, (blk_cell HX4.out 0).trans rfl, (blk_cell HX4.out 1).trans rfl, (blk_cell HX4.out 2).trans rfl⟩ (fun hHeld => ?_)
     clear hK K
     refine norm_ (a' := ?_) ?_ ?_
     rotate_left; · (show Act.put _ (some 54) _ = _; simp only [Act.put, List.setIfInBounds_toArray, List.set_cons_zero, List.set_cons_succ, i64_w, i32_w]; rfl)
     refine pure_ (i := 8) (N := some 55) (v := ?_) (a' := ?_) #[true, true, true, true, true, true, true, true, true, false, false] rfl rfl (by kernel_rfl) (fun _ _ _ h => h) (Or.inl ⟨by rfl, ?_⟩) ?_ ?_
     rotate_left; · (intro w'; go_simp; with_reducible rfl)
     rotate_left; · (simp only [Act.put, List.setIfInBounds_toArray, List.set_cons_zero, List.set_cons_succ, i64_w, i32_w]; rfl)
     refine pure_ (i := 9) (N := some 56) (v := ?_) (a' := ?_) #[true, true, true, true, true, true, true, true, true, true, false] rfl rfl (by kernel_rfl) (fun _ _ _ h => h) (Or.inl ⟨by rfl, ?_⟩) ?_ ?_
     rotate_left; · (intro w'; go_simp; with_reducible rfl)
     rotate_left; · (simp only [Act.put, List.setIfInBounds_toArray, List.set_cons_zero, List.set_cons_succ, i64_w, i32_w]; rfl)
     refine last_ (i := 10) (N := none) #[true, true, true, true, true, true, true, true, true, true, true] rfl rfl (by kernel_rfl) (by decide) (fun K hK => ?_)
     have hs : x4.cell? ⟨w.heap.size + 1 + 1 + 1, 3, none⟩ = some u1 := (blk_cell HT4.out.out 3).trans rfl
     have hf := blk_frozen HT4.out.out 3
     refine skip_ (w1 := ?_) (by rfl) rfl ?_ ?_
     rotate_left
     ·
      go_simp
      rfl
     refine hK.out _ _ ?_
     clear hK K
     refine done_ (by kernel_rfl) ?_
     have HT5 := Aside0.mk (HT4.out.set3 HLB.out (.slice Av (n1 + 1) cv))
     have HR5' := Aside0.mk (Kd.R_set HR4'.out HT4.out.out (by decide) 3 (.slice Av (n1 + 1) cv))
     clear hs hf HT4 HR4' hHeld hx0 hx1 hx2 HX4
     go_wp2
     go_roundw
     case rel => exact ⟨n1 + 1, _, by omega, by go_num, by rw [take_T72 _ _ hlt, ← all_snoc]; exact HT5.out, by rw [take_T72 _ _ hlt]; exact HR5'.out⟩
     case measure => simp [intOf]; omega
    ·
     obtain ⟨o2, ho⟩ : ∃ o, o = (o1 && s.f2.f1.all (okV en)) := ⟨_, rfl⟩
     have HO2 := Aside0.mk ho
     obtain ⟨B1, N1, D1, ev⟩ : ∃ B N D, u1 = .slice B N D := by obtain ⟨B, D, e⟩ := Kd.R_slice HR.out; exact ⟨B, _, D, e⟩
     subst ev
     replace HT := Aside0.mk (show TInv w bo (.bool s.f0) (.slice A1 s.f1.length k1) (.int .i64 s.f2.f0) (.slice A3 s.f2.f1.length k3) (.slice A4 s.f2.f2.length k4) (.slice A5 s.f2.f3.length k5) (.func (.func 16) #[] #[.pointer (some ⟨bo, 0, none⟩), .pointer (some ⟨be, 0, none⟩)]) (o2) (.slice B0 N0 D0) (.slice B1 N1 D1) (.slice none 0 0) (.slice none 0 0) wr by have h := HT.out; rw [List.take_of_length_le (by omega), ← ho] at h; exact h)
     clear ho HR
     have hb : wr.cell? ⟨w.heap.size, 4, none⟩ = some (.slice A4 s.f2.f2.length k4) := (blk_cell HT.out.box 4).trans rfl
     go_wp2
     go_loopw [62] (fun v62 wr => ∃ (n2 : Nat) (u2 : Value), n2 ≤ s.f2.f2.length ∧ v62 = .int .i64 n2 ∧ TInv w bo (.bool s.f0) (.slice A1 s.f1.length k1) (.int .i64 s.f2.f0) (.slice A3 s.f2.f1.length k3) (.slice A4 s.f2.f2.length k4) (.slice A5 s.f2.f3.length k5) (.func (.func 16) #[] #[.pointer (some ⟨bo, 0, none⟩), .pointer (some ⟨be, 0, none⟩)]) (o2 && (s.f2.f2.take n2).all (okV en)) (.slice B0 N0 D0) (.slice B1 N1 D1) (u2) (.slice none 0 0) wr ∧ Kd.R k72 72 wr w.heap.size (fun _ => True) u2 (s.f2.f2.take n2)) (fun v62 _ => s.f2.f2.length - (intOf v62).toNat)
     case atStart =>
      exact ⟨0, .slice none 0 0, Nat.zero_le _, rfl, by rw [List.take_zero, List.all_nil, Bool.and_true]; exact HT.out, Kd.R_nil _ _ _ _ _⟩
     case round =>
      clear HT hb
      obtain ⟨n2, u2, hk, rfl, hT, hR⟩ := hrel
      have HT := Aside0.mk hT
      have HR := Aside0.mk hR
      clear hT hR
      by_cases hlt : n2 < s.f2.f2.length
      ·
       have i0 : (0 : Int) ≤ (n2 : Int) := Int.natCast_nonneg _
       have i1 : (n2 : Int) < (s.f2.f2.length : Int) := by omega
       obtain ⟨ad, eA, hx0, hx1, hx2⟩ := at_T72 HR4.out (n2 : Int) i0 i1
       cases eA
       replace hx0 := cell0 H0.out HL0.out HT.out.grown hx0
       rw [Int.toNat_natCast] at hx0
       replace hx1 := cell0 H0.out HL0.out HT.out.grown hx1
       rw [Int.toNat_natCast] at hx1
       replace hx2 := cell0 H0.out HL0.out HT.out.grown hx2
       rw [Int.toNat_natCast] at hx2
       go_wp2
       have HLX := Aside0.mk (Nat.ne_of_lt (Nat.lt_of_lt_of_le HLB.out HT.out.grown.size))
       have HNV := Aside0.mk (R_ne_size HR.out)
       have HT1 := Aside0.mk ((HT.out.same HLB.out (below_alloc (Below.refl _ _) (.cells #[.int .i64 (rd_T72 s.f2.f2 n2).f0, .bool (rd_T72 s.f2.f2 n2).f1, .int .i64 (rd_T72 s.f2.f2 n2).f2] 72))).drew)
       have HR1' := Aside0.mk (Kd.R_drew (Kd.R_alloc HR.out (.cells #[.int .i64 (rd_T72 s.f2.f2 n2).f0, .bool (rd_T72 s.f2.f2 n2).f1, .int .i64 (rd_T72 s.f2.f2 n2).f2] 72)))
       have HX := Aside0.mk (blk_drew (blk_new wr (.cells #[.int .i64 (rd_T72 s.f2.f2 n2).f0, .bool (rd_T72 s.f2.f2 n2).f1, .int .i64 (rd_T72 s.f2.f2 n2).f2] 72)))
       clear HT HR
       refine start_ (n := 11) (S := fun w' => w'.cell? ⟨w.heap.size + 1 + 1 + 1, 4, none⟩ = some u2 ∧ w'.cell? ⟨wr.heap.size, 0, none⟩ = some (.int .i64 (rd_T72 s.f2.f2 n2).f0) ∧ w'.cell? ⟨wr.heap.size, 1, none⟩ = some (.bool (rd_T72 s.f2.f2 n2).f1) ∧ w'.cell? ⟨wr.heap.size, 2, none⟩ = some (.int .i64 (rd_T72 s.f2.f2 n2).f2)) (ds := [10]) #[false, false, false, false, false, false, false, false, false, false, false] (by kernel_rfl) rfl rfl ⟨(blk_cell HT1.out.out 4).trans rfl, (blk_cell HX.out 0).trans rfl, (blk_cell HX.out 1).trans rfl, (blk_cell HX.out 2).trans rfl⟩ (fun hHeld => ?_)
       generalize (wr.alloc (.cells #[.int .i64 (rd_T72 s.f2.f2 n2).f0, .bool (rd_T72 s.f2.f2 n2).f1, .int .i64 (rd_T72 s.f2.f2 n2).f2] 72)).drew = x1 at HT1 HR1' HX hHeld ⊢
       refine pure_ (i := 0) (N := some 66) (v := ?_) (a' := ?_) #[true, false, false, false, false, false, false, false, false, false, false] rfl rfl (by kernel_rfl) (fun _ _ _ h => h) (Or.inl ⟨by rfl, ?_⟩) ?_ ?_
       rotate_left; · (intro w'; go_simp; with_reducible rfl)
       rotate_left; · (simp only [Act.put, List.setIfInBounds_toArray, List.set_cons_zero, List.set_cons_succ, i64_w, i32_w]; rfl)
       refine pure_ (i := 1) (N := some 67) (v := ?_) (a' := ?_) #[true, true, false, false, false, false, false, false, false, false, false] rfl rfl (by kernel_rfl) (fun _ _ _ h => h) (Or.inl ⟨by rfl, ?_⟩) ?_ ?_
       rotate_left; · (intro w'; go_simp; with_reducible rfl)
       rotate_left; · (simp only [Act.put, List.setIfInBounds_toArray, List.set_cons_zero, List.set_cons_succ, i64_w, i32_w]; rfl)
       refine pure_ (i := 3) (N := some 69) (v := ?_) (a' := ?_) #[true, true, false, true, false, false, false, false, false, false, false] rfl rfl (by kernel_rfl) (fun _ _ _ h => h) (Or.inl ⟨by rfl, ?_⟩) ?_ ?_
       rotate_left; · (intro w'; go_simp; with_reducible rfl)
       rotate_left; · (simp only [Act.put, List.setIfInBounds_toArray, List.set_cons_zero, List.set_cons_succ, i64_w, i32_w]; rfl)
       refine take_ (i := 2) (N := some 68) (v := ?_) (a' := ?_) #[true, true, true, true, false, false, false, false, false, false, false] rfl rfl (by kernel_rfl) (fun _ _ _ h => h) (Or.inl ⟨by rfl, ?_⟩) hHeld ?_ ?_
       rotate_left; · (rintro w' ⟨s0, s1, s2, s3⟩; go_simp; with_reducible rfl)
       rotate_left; · (simp only [Act.put, List.setIfInBounds_toArray, List.set_cons_zero, List.set_cons_succ, i64_w, i32_w]; rfl)
       refine take_ (i := 4) (N := some 70) (v := ?_) (a' := ?_) #[true, true, true, true, true, false, false, false, false, false, false] rfl rfl (by kernel_rfl) (fun _ _ _ h => h) (Or.inl ⟨by rfl, ?_⟩) hHeld ?_ ?_
       rotate_left; · (rintro w' ⟨s0, s1, s2, s3⟩; go_simp; with_reducible rfl)
       rotate_left; · (simp only [Act.put, List.setIfInBounds_toArray, List.set_cons_zero, List.set_cons_succ, i64_w, i32_w]; rfl)
       refine one_ (i := 5) (N := some 71) #[true, true, true, true, true, true, false, false, false, false, false] rfl rfl (by kernel_rfl) (by decide) (fun K hK => ?_)
       refine goesV_ (t := 69) Tryd.func22 (by kernel_rfl) rfl #[.agg #[.int .i64 (rd_T72 s.f2.f2 n2).f0, .bool (rd_T72 s.f2.f2 n2).f1, .int .i64 (rd_T72 s.f2.f2 n2).f2]] #[.agg #[.int .i64 (rd_T72 s.f2.f2 n2).f0, .bool (rd_T72 s.f2.f2 n2).f1, .int .i64 (rd_T72 s.f2.f2 n2).f2], .pointer (some ⟨w.heap.size + 1, 0, none⟩)] (by rfl) rfl rfl (by rfl) (by (try simp only [List.map_toArray, List.map_cons, List.map_nil]); first | done | rfl) (by rfl) ?_
       refine (turned1 (rd_T72 s.f2.f2 n2) en (o2 && (s.f2.f2.take n2).all (okV en)) _ bo be _ ((blk_cell HT1.out.fun_ 0).trans rfl) HT1.out.flag (HT1.out.grown.block be (blk_lt HBE.out) (by intro e; injection e with e; exact HNE.out e.symm) |>.trans HBE.out)).mono ?_
       rintro e x2 ⟨rfl, hg2, hf2⟩
       refine ⟨_, rfl, ?_⟩
       have HT2 := Aside0.mk (HT1.out.turned HLB.out hg2 hf2)
       have HR2 := Aside0.mk (Kd.R_mono (Kd.R_grown (Kd.R_types HR1'.out HT1.out.flag (by decide)) hg2 (fun _ hk e => hk.2 (by injection e))) (fun _ _ => trivial))
       have HX2 := Aside0.mk (blk_grown HX.out hg2 (by intro e; injection e with e; exact HLX.out e.symm))
       clear hg2 hf2 HT1 HR1' HX
       refine hK.out _ _ ⟨(blk_cell HT2.out.out 4).trans rfl, (blk_cell HX2.out 0).trans rfl, (blk_cell HX2.out 1).trans rfl, (blk_cell HX2.out 2).trans rfl⟩ (fun hHeld => ?_)
       clear hK K
       refine norm_ (a' := ?_) ?_ ?_
       rotate_left; · (show Act.put _ (some 71) _ = _; simp only [Act.put, List.setIfInBounds_toArray, List.set_cons_zero, List.set_cons_succ, i64_w, i32_w]; rfl)
       refine one_ (i := 6) (N := some 72) #[true, true, true, true, true, true, true, false, false, false, false] rfl rfl (by kernel_rfl) (by decide) (fun K hK => ?_)
       refine value_ (w1 := ?_) (v := ?_) (by rfl) rfl ?_ ?_
       rotate_left 2
       ·
        go_simp
        constructor
        · rfl
        · rfl
       have HT3 := Aside0.mk (HT2.out.same HLB.out (below_alloc (Below.refl _ _) (.cells #[.int .i64 (rd_T72 s.f2.f2 n2).f0, .bool (rd_T72 s.f2.f2 n2).f1, .int .i64 (rd_T72 s.f2.f2 n2).f2] 72)))
       have HX3 := Aside0.mk (blk_alloc HX2.out (.cells #[.int .i64 (rd_T72 s.f2.f2 n2).f0, .bool (rd_T72 s.f2.f2 n2).f1, .int .i64 (rd_T72 s.f2.f2 n2).f2] 72))
       refine hK.out _ _ ⟨(blk_cell HT3.out.out 4).trans rfl, (blk_cell HX3.out 0).trans rfl, (blk_cell HX3.out 1).trans rfl, (blk_cell HX3.out 2).trans rfl⟩ (fun hHeld => ?_)
       clear hK K
       refine norm_ (a' := ?_) ?_ ?_
       rotate_left; · (show Act.put _ (some 72) _ = _; simp only [Act.put, List.setIfInBounds_toArray, List.set_cons_zero, List.set_cons_succ, i64_w, i32_w]; rfl)
       refine one_ (i := 7) (N := some 73) #[true, true, true, true, true, true, true, true, false, false, false] rfl rfl (by kernel_rfl) (by decide) (fun K hK => ?_)
       refine Kd.R_append_step k72 (w0 := x2) w.heap.size (by rfl) (.tmp 68) (.tmp 72) 36 72 (.agg #[(.int .i64 0), (.bool false), (.int .i64 0)]) 24 rfl Tryd.underlying36 info72 rfl (by decide) (by omega) u2 (s.f2.f2.take n2) (rd_T72 s.f2.f2 n2) [.int .i64 (rd_T72 s.f2.f2 n2).f0, .bool (rd_T72 s.f2.f2 n2).f1, .int .i64 (rd_T72 s.f2.f2 n2).f2] (fun _ => True) (fun _ => False) rfl rfl ?aP (fun _ hk => hk.elim) ?aF ?aO ?aB ?aS ?aL ?_
       (case aP => exact k72_mkM _ _ _ _)
       (case aB => exact Below.refl _ _)
       (case aF => exact (fun _ _ => trivial))
       (case aO => exact HR2.out)
       (case aS => exact HT2.out.grown.size)
       (case aL => have := List.length_take_le n2 s.f2.f2; omega)
       intro v' x4 ho hb hg hat
       have HT4 := Aside0.mk (HT2.out.appended HLB.out hb hg (fun g cs t hc ht => Kd.R_ne HR2.out hc (by rcases ht with rfl | rfl <;> decide)))
       have HR4' := Aside0.mk ho
       have HX4 := Aside0.mk (blk_grown HX2.out hg HNV.out)
       clear ho hb hg hat HT3 HR2 HX2 HX3
       obtain ⟨Av, cv, ev⟩ := Kd.R_slice HR4'.out
       rw [show ((s.f2.f2.take n2) ++ [rd_T72 s.f2.f2 n2]).length = n2 + 1 from by simp; omega] at ev
       subst ev
       refine hK.out _ _ ⟨(blk_cell HT4.out.out 4).trans rfl, (blk_cell HX4.out 0).trans rfl, (blk_cell HX4.out 1).trans rfl, (blk_cell HX4.out 2).trans rfl⟩ (fun hHeld => ?_)
       clear hK K
       refine norm_ (a' := ?_) ?_ ?_
       rotate_left; · (show Act.put _ (some 73) _ = _; simp only [Act.put, List.setIfInBounds_toArray, List.set_cons_zero, List.set_cons_succ, i64_w, i32_w]; rfl)
       refine pure_ (i := 8) (N := some 74) (v := ?_) (a' := ?_) #[true, true, true, true, true, true, true, true, true, false, false] rfl rfl (by kernel_rfl) (fun _ _ _ h => h) (Or.inl ⟨by rfl, ?_⟩) ?_ ?_
       rotate_left; · (intro w'; go_simp; with_reducible rfl)
       rotate_left; · (simp only [Act.put, List.setIfInBounds_toArray, List.set_cons_zero, List.set_cons_succ, i64_w, i32_w]; rfl)
       refine pure_ (i := 9) (N := some 75) (v := ?_) (a' := ?_) #[true, true, true, true, true, true, true, true, true, true, false] rfl rfl (by kernel_rfl) (fun _ _ _ h => h) (Or.inl ⟨by rfl, ?_⟩) ?_ ?_
       rotate_left; · (intro w'; go_simp; with_reducible rfl)
       rotate_left; · (simp only [Act.put, List.setIfInBounds_toArray, List.set_cons_zero, List.set_cons_succ, i64_w, i32_w]; rfl)
       refine last_ (i := 10) (N := none) #[true, true, true, true, true, true, true, true, true, true, true] rfl rfl (by kernel_rfl) (by decide) (fun K hK => ?_)
       have hs : x4.cell? ⟨w.heap.size + 1 + 1 + 1, 4, none⟩ = some u2 := (blk_cell HT4.out.out 4).trans rfl
       have hf := blk_frozen HT4.out.out 4
       refine skip_ (w1 := ?_) (by rfl) rfl ?_ ?_
       rotate_left
       ·
        go_simp
        rfl
       refine hK.out _ _ ?_
       clear hK K
       refine done_ (by kernel_rfl) ?_
       have HT5 := Aside0.mk (HT4.out.set4 HLB.out (.slice Av (n2 + 1) cv))
       have HR5' := Aside0.mk (Kd.R_set HR4'.out HT4.out.out (by decide) 4 (.slice Av (n2 + 1) cv))
       clear hs hf HT4 HR4' hHeld hx0 hx1 hx2 HX4
       go_wp2
       go_roundw
       case rel => exact ⟨n2 + 1, _, by omega, by go_num, by rw [take_T72 _ _ hlt, ← all_snoc]; exact HT5.out, by rw [take_T72 _ _ hlt]; exact HR5'.out⟩
       case measure => simp [intOf]; omega
      ·
       obtain ⟨o3, ho⟩ : ∃ o, o = (o2 && s.f2.f2.all (okV en)) := ⟨_, rfl⟩
       have HO3 := Aside0.mk ho
       obtain ⟨B2, N2, D2, ev⟩ : ∃ B N D, u2 = .slice B N D := by obtain ⟨B, D, e⟩ := Kd.R_slice HR.out; exact ⟨B, _, D, e⟩
       subst ev
       replace HT := Aside0.mk (show TInv w bo (.bool s.f0) (.slice A1 s.f1.length k1) (.int .i64 s.f2.f0) (.slice A3 s.f2.f1.length k3) (.slice A4 s.f2.f2.length k4) (.slice A5 s.f2.f3.length k5) (.func (.func 16) #[] #[.pointer (some ⟨bo, 0, none⟩), .pointer (some ⟨be, 0, none⟩)]) (o3) (.slice B0 N0 D0) (.slice B1 N1 D1) (.slice B2 N2 D2) (.slice none 0 0) wr by have h := HT.out; rw [List.take_of_length_le (by omega), ← ho] at h; exact h)
       clear ho HR
       have hb : wr.cell? ⟨w.heap.size, 5, none⟩ = some (.slice A5 s.f2.f3.length k5) := (blk_cell HT.out.box 5).trans rfl
       go_wp2
       go_loopw [81] (fun v81 wr => ∃ (n3 : Nat) (u3 : Value), n3 ≤ s.f2.f3.length ∧ v81 = .int .i64 n3 ∧ TInv w bo (.bool s.f0) (.slice A1 s.f1.length k1) (.int .i64 s.f2.f0) (.slice A3 s.f2.f1.length k3) (.slice A4 s.f2.f2.length k4) (.slice A5 s.f2.f3.length k5) (.func (.func 16) #[] #[.pointer (some ⟨bo, 0, none⟩), .pointer (some ⟨be, 0, none⟩)]) (o3 && (s.f2.f3.take n3).all (fun f => okV en f.f0)) (.slice B0 N0 D0) (.slice B1 N1 D1) (.slice B2 N2 D2) (u3) wr ∧ Kd.R k75 75 wr w.heap.size (fun _ => True) u3 (s.f2.f3.take n3)) (fun v81 _ => s.f2.f3.length - (intOf v81).toNat)
       case atStart =>
        exact ⟨0, .slice none 0 0, Nat.zero_le _, rfl, by rw [List.take_zero, List.all_nil, Bool.and_true]; exact HT.out, Kd.R_nil _ _ _ _ _⟩
       case round =>
        clear HT hb
        obtain ⟨n3, u3, hk, rfl, hT, hR⟩ := hrel
        have HT := Aside0.mk hT
        have HR := Aside0.mk hR
        clear hT hR
        by_cases hlt : n3 < s.f2.f3.length
        ·
         have i0 : (0 : Int) ≤ (n3 : Int) := Int.natCast_nonneg _
         have i1 : (n3 : Int) < (s.f2.f3.length : Int) := by omega
         obtain ⟨ad, eA, hx0, hx1, hx2, hx3⟩ := at_T75 HR5.out (n3 : Int) i0 i1
         cases eA
         replace hx0 := cell0 H0.out HL0.out HT.out.grown hx0
         rw [Int.toNat_natCast] at hx0
         replace hx1 := cell0 H0.out HL0.out HT.out.grown hx1
         rw [Int.toNat_natCast] at hx1
         replace hx2 := cell0 H0.out HL0.out HT.out.grown hx2
         rw [Int.toNat_natCast] at hx2
         replace hx3 := cell0 H0.out HL0.out HT.out.grown hx3
         rw [Int.toNat_natCast] at hx3
         go_wp2
         have HLX := Aside0.mk (Nat.ne_of_lt (Nat.lt_of_lt_of_le HLB.out HT.out.grown.size))
         have HNV := Aside0.mk (R_ne_size HR.out)
         have HT1 := Aside0.mk ((HT.out.same HLB.out (below_alloc (Below.refl _ _) (.cells #[.int .i64 (rd_T75 s.f2.f3 n3).f0.f0, .bool (rd_T75 s.f2.f3 n3).f0.f1, .int .i64 (rd_T75 s.f2.f3 n3).f0.f2, .bool (rd_T75 s.f2.f3 n3).f1] 75))).drew)
         have HR1' := Aside0.mk (Kd.R_drew (Kd.R_alloc HR.out (.cells #[.int .i64 (rd_T75 s.f2.f3 n3).f0.f0, .bool (rd_T75 s.f2.f3 n3).f0.f1, .int .i64 (rd_T75 s.f2.f3 n3).f0.f2, .bool (rd_T75 s.f2.f3 n3).f1] 75)))
         have HX := Aside0.mk (blk_drew (blk_new wr (.cells #[.int .i64 (rd_T75 s.f2.f3 n3).f0.f0, .bool (rd_T75 s.f2.f3 n3).f0.f1, .int .i64 (rd_T75 s.f2.f3 n3).f0.f2, .bool (rd_T75 s.f2.f3 n3).f1] 75)))
         clear HT HR
         refine start_ (n := 15) (S := fun w' => w'.cell? ⟨w.heap.size + 1 + 1 + 1, 5, none⟩ = some u3 ∧ w'.cell? ⟨wr.heap.size, 0, none⟩ = some (.int .i64 (rd_T75 s.f2.f3 n3).f0.f0) ∧ w'.cell? ⟨wr.heap.size, 1, none⟩ = some (.bool (rd_T75 s.f2.f3 n3).f0.f1) ∧ w'.cell? ⟨wr.heap.size, 2, none⟩ = some (.int .i64 (rd_T75 s.f2.f3 n3).f0.f2) ∧ w'.cell? ⟨wr.heap.size, 3, none⟩ = some (.bool (rd_T75 s.f2.f3 n3).f1)) (ds := [14]) #[false, false, false, false, false, false, false, false, false, false, false, false, false, false, false] (by kernel_rfl) rfl rfl ⟨(blk_cell HT1.out.out 5).trans rfl, (blk_cell HX.out 0).trans rfl, (blk_cell HX.out 1).trans rfl, (blk_cell HX.out 2).trans rfl, (blk_cell HX.out 3).trans rfl⟩ (fun hHeld => ?_)
         generalize (wr.alloc (.cells #[.int .i64 (rd_T75 s.f2.f3 n3).f0.f0, .bool (rd_T75 s.f2.f3 n3).f0.f1, .int .i64 (rd_T75 s.f2.f3 n3).f0.f2, .bool (rd_T75 s.f2.f3 n3).f1] 75)).drew = x1 at HT1 HR1' HX hHeld ⊢
         refine pure_ (i := 0) (N := some 85) (v := ?_) (a' := ?_) #[true, false, false, false, false, false, false, false, false, false, false, false, false, false, false] rfl rfl (by kernel_rfl) (fun _ _ _ h => h) (Or.inl ⟨by rfl, ?_⟩) ?_ ?_
         rotate_left; · (intro w'; go_simp; with_reducible rfl)
         rotate_left; · (simp only [Act.put, List.setIfInBounds_toArray, List.set_cons_zero, List.set_cons_succ, i64_w, i32_w]; rfl)
         refine pure_ (i := 1) (N := some 86) (v := ?_) (a' := ?_) #[true, true, false, false, false, false, false, false, false, false, false, false, false, false, false] rfl rfl (by kernel_rfl) (fun _ _ _ h => h) (Or.inl ⟨by rfl, ?_⟩) ?_ ?_
         rotate_left; · (intro w'; go_simp; with_reducible rfl)
         rotate_left; · (simp only [Act.put, List.setIfInBounds_toArray, List.set_cons_zero, List.set_cons_succ, i64_w, i32_w]; rfl)
         refine pure_ (i := 3) (N := some 88) (v := ?_) (a' := ?_) #[true, true, false, true, false, false, false, false, false, false, false, false, false, false, false] rfl rfl (by kernel_rfl) (fun _ _ _ h => h) (Or.inl ⟨by rfl, ?_⟩) ?_ ?_
         rotate_left; · (intro w'; go_simp; with_reducible rfl)
         rotate_left; · (simp only [Act.put, List.setIfInBounds_toArray, List.set_cons_zero, List.set_cons_succ, i64_w, i32_w]; rfl)
         refine pure_ (i := 4) (N := some 89) (v := ?_) (a' := ?_) #[true, true, false, true, true, false, false, false, false, false, false, false, false, false, false] rfl rfl (by kernel_rfl) (fun _ _ _ h => h) (Or.inl ⟨by rfl, ?_⟩) ?_ ?_
         rotate_left; · (intro w'; go_simp; with_reducible rfl)
         rotate_left; · (simp only [Act.put, List.setIfInBounds_toArray, List.set_cons_zero, List.set_cons_succ, i64_w, i32_w]; rfl)
         refine pure_ (i := 7) (N := some 92) (v := ?_) (a' := ?_) #[true, true, false, true, true, false, false, true, false, false, false, false, false, false, false] rfl rfl (by kernel_rfl) (fun _ _ _ h => h) (Or.inl ⟨by rfl, ?_⟩) ?_ ?_
         rotate_left; · (intro w'; go_simp; with_reducible rfl)
         rotate_left; · (simp only [Act.put, List.setIfInBounds_toArray, List.set_cons_zero, List.set_cons_succ, i64_w, i32_w]; rfl)
         refine take_ (i := 2) (N := some 87) (v := ?_) (a' := ?_) #[true, true, true, true, true, false, false, true, false, false, false, false, false, false, false] rfl rfl (by kernel_rfl) (fun _ _ _ h => h) (Or.inl ⟨by rfl, ?_⟩) hHeld ?_ ?_
         rotate_left; · (rintro w' ⟨s0, s1, s2, s3, s4⟩; go_simp; with_reducible rfl)
         rotate_left; · (simp only [Act.put, List.setIfInBounds_toArray, List.set_cons_zero, List.set_cons_succ, i64_w, i32_w]; rfl)
         refine take_ (i := 5) (N := some 90) (v := ?_) (a' := ?_) #[true, true, true, true, true, true, false, true, false, false, false, false, false, false, false] rfl rfl (by kernel_rfl) (fun _ _ _ h => h) (Or.inl ⟨by rfl, ?_⟩) hHeld ?_ ?_
         rotate_left; · (rintro w' ⟨s0, s1, s2, s3, s4⟩; go_simp; with_reducible rfl)
         rotate_left; · (simp only [Act.put, List.setIfInBounds_toArray, List.set_cons_zero, List.set_cons_succ, i64_w, i32_w]; rfl)
         refine take_ (i := 8) (N := some 93) (v := ?_) (a' := ?_) #[true, true, true, true, true, true, false, true, true, false, false, false, false, false, false] rfl rfl (by kernel_rfl) (fun _ _ _ h => h) (Or.inl ⟨by rfl, ?_⟩) hHeld ?_ ?_
         rotate_left; · (rintro w' ⟨s0, s1, s2, s3, s4⟩; go_simp; with_reducible rfl)
         rotate_left; · (simp only [Act.put, List.setIfInBounds_toArray, List.set_cons_zero, List.set_cons_succ, i64_w, i32_w]; rfl)
         refine one_ (i := 6) (N := some 91) #[true, true, true, true, true, true, true, true, true, false, false, false, false, false, false] rfl rfl (by kernel_rfl) (by decide) (fun K hK => ?_)
         refine goesV_ (t := 88) Tryd.func22 (by kernel_rfl) rfl #[.agg #[.int .i64 (rd_T75 s.f2.f3 n3).f0.f0, .bool (rd_T75 s.f2.f3 n3).f0.f1, .int .i64 (rd_T75 s.f2.f3 n3).f0.f2]] #[.agg #[.int .i64 (rd_T75 s.f2.f3 n3).f0.f0, .bool (rd_T75 s.f2.f3 n3).f0.f1, .int .i64 (rd_T75 s.f2.f3 n3).f0.f2], .pointer (some ⟨w.heap.size + 1, 0, none⟩)] (by rfl) rfl rfl (by rfl) (by (try simp only [List.map_toArray, List.map_cons, List.map_nil]); first | done | rfl) (by rfl) ?_
         refine (turned1 (rd_T75 s.f2.f3 n3).f0 en (o3 && (s.f2.f3.take n3).all (fun f => okV en f.f0)) _ bo be _ ((blk_cell HT1.out.fun_ 0).trans rfl) HT1.out.flag (HT1.out.grown.block be (blk_lt HBE.out) (by intro e; injection e with e; exact HNE.out e.symm) |>.trans HBE.out)).mono ?_
         rintro e x2 ⟨rfl, hg2, hf2⟩
         refine ⟨_, rfl, ?_⟩
         have HT2 := Aside0.mk (HT1.out.turned HLB.out hg2 hf2)
         have HR2 := Aside0.mk (Kd.R_mono (Kd.R_grown (Kd.R_types HR1'.out HT1.out.flag (by decide)) hg2 (fun _ hk e => hk.2 (by injection e))) (fun _ _ => trivial))
         have HX2 := Aside0.mk (blk_grown HX.out hg2 (by intro e; injection e with e; exact HLX.out e.symm))
         clear hg2 hf2 HT1 HR1' HX
         refine hK.out _ _ ⟨(blk_cell HT2.out.out 5).trans rfl, (blk_cell HX2.out 0).trans rfl, (blk_cell HX2.out 1).trans rfl, (blk_cell HX2.out 2).trans rfl, (blk_cell HX2.out 3).trans rfl⟩ (fun hHeld => ?_)
         clear hK K
         refine norm_ (a' := ?_) ?_ ?_
         rotate_left; · (show Act.put _ (some 91) _ = _; simp only [Act.put, List.setIfInBounds_toArray, List.set_cons_zero, List.set_cons_succ, i64_w, i32_w]; rfl)
         refine pure_ (i := 9) (N := some 94) (v := ?_) (a' := ?_) #[true, true, true, true, true, true, true, true, true, true, false, false, false, false, false] rfl rfl (by kernel_rfl) (fun _ _ _ h => h) (Or.inl ⟨by rfl, ?_⟩) ?_ ?_
         rotate_left; · (intro w'; go_simp; with_reducible rfl)
         rotate_left; · (simp only [Act.put, List.setIfInBounds_toArray, List.set_cons_zero, List.set_cons_succ, i64_w, i32_w]; rfl)
         refine one_ (i := 10) (N := some 95) #[true, true, true, true, true, true, true, true, true, true, true, false, false, false, false] rfl rfl (by kernel_rfl) (by decide) (fun K hK => ?_)
         refine value_ (w1 := ?_) (v := ?_) (by rfl) rfl ?_ ?_
         rotate_left 2
         ·
          go_simp
          constructor
          · rfl
          · rfl
         have HT3 := Aside0.mk (HT2.out.same HLB.out (below_alloc (Below.refl _ _) (.cells #[.int .i64 (rd_T75 s.f2.f3 n3).f0.f0, .bool (rd_T75 s.f2.f3 n3).f0.f1, .int .i64 (rd_T75 s.f2.f3 n3).f0.f2, .bool (rd_T75 s.f2.f3 n3).f1] 75)))
         have HX3 := Aside0.mk (blk_alloc HX2.out (.cells #[.int .i64 (rd_T75 s.f2.f3 n3).f0.f0, .bool (rd_T75 s.f2.f3 n3).f0.f1, .int .i64 (rd_T75 s.f2.f3 n3).f0.f2, .bool (rd_T75 s.f2.f3 n3).f1] 75))
         refine hK.out _ _ ⟨(blk_cell HT3.out.out 5).trans rfl, (blk_cell HX3.out 0).trans rfl, (blk_cell HX3.out 1).trans rfl, (blk_cell HX3.out 2).trans rfl, (blk_cell HX3.out 3).trans rfl⟩ (fun hHeld => ?_)
         clear hK K
         refine norm_ (a' := ?_) ?_ ?_
         rotate_left; · (show Act.put _ (some 95) _ = _; simp only [Act.put, List.setIfInBounds_toArray, List.set_cons_zero, List.set_cons_succ, i64_w, i32_w]; rfl)
         refine one_ (i := 11) (N := some 96) #[true, true, true, true, true, true, true, true, true, true, true, true, false, false, false] rfl rfl (by kernel_rfl) (by decide) (fun K hK => ?_)
         refine Kd.R_append_step k75 (w0 := x2) w.heap.size (by rfl) (.tmp 87) (.tmp 95) 37 75 (.agg #[(.int .i64 0), (.bool false), (.int .i64 0), (.bool false)]) 32 rfl Tryd.underlying37 info75 rfl (by decide) (by omega) u3 (s.f2.f3.take n3) (rd_T75 s.f2.f3 n3) [.int .i64 (rd_T75 s.f2.f3 n3).f0.f0, .bool (rd_T75 s.f2.f3 n3).f0.f1, .int .i64 (rd_T75 s.f2.f3 n3).f0.f2, .bool (rd_T75 s.f2.f3 n3).f1] (fun _ => True) (fun _ => False) rfl rfl ?aP (fun _ hk => hk.elim) ?aF ?aO ?aB ?aS ?aL ?_
         (case aP => exact k75_mkM _ _ _ _)
         (case aB => exact Below.refl _ _)
         (case aF => exact (fun _ _ => trivial))
         (case aO => exact HR2.out)
         (case aS => exact HT2.out.grown.size)
         (case aL => have := List.length_take_le n3 s.f2.f3; omega)
         intro v' x4 ho hb hg hat
         have HT4 := Aside0.mk (HT2.out.appended HLB.out hb hg (fun g cs t hc ht => Kd.R_ne HR2.out hc (by rcases ht with rfl | rfl <;> decide)))
         have HR4' := Aside0.mk ho
         have HX4 := Aside0.mk (blk_grown HX2.out hg HNV.out)
         clear ho hb hg hat HT3 HR2 HX2 HX3
         obtain ⟨Av, cv, ev⟩ := Kd.R_slice HR4'.out
         rw [show ((s.f2.f3.take n3) ++ [rd_T75 s.f2.f3 n3]).length = n3 + 1 from by simp; omega] at ev
         subst ev
         refine hK.out _ _ ⟨(blk_cell HT4.out.out 5).trans rfl, (blk_cell HX4.out 0).trans rfl, (blk_cell HX4.out 1).trans rfl, (blk_cell HX4.out 2).trans rfl, (blk_cell HX4.out 3).trans rfl⟩ (fun hHeld => ?_)
         clear hK K
         refine norm_ (a' := ?_) ?_ ?_
         rotate_left; · (show Act.put _ (some 96) _ = _; simp only [Act.put, List.setIfInBounds_toArray, List.set_cons_zero, List.set_cons_succ, i64_w, i32_w]; rfl)
         refine pure_ (i := 12) (N := some 97) (v := ?_) (a' := ?_) #[true, true, true, true, true, true, true, true, true, true, true, true, true, false, false] rfl rfl (by kernel_rfl) (fun _ _ _ h => h) (Or.inl ⟨by rfl, ?_⟩) ?_ ?_
         rotate_left; · (intro w'; go_simp; with_reducible rfl)
         rotate_left; · (simp only [Act.put, List.setIfInBounds_toArray, List.set_cons_zero, List.set_cons_succ, i64_w, i32_w]; rfl)
         refine pure_ (i := 13) (N := some 98) (v := ?_) (a' := ?_) #[true, true, true, true, true, true, true, true, true, true, true, true, true, true, false] rfl rfl (by kernel_rfl) (fun _ _ _ h => h) (Or.inl ⟨by rfl, ?_⟩) ?_ ?_
         rotate_left; · (intro w'; go_simp; with_reducible rfl)
         rotate_left; · (simp only [Act.put, List.setIfInBounds_toArray, List.set_cons_zero, List.set_cons_succ, i64_w, i32_w]; rfl)
         refine last_ (i := 14) (N := none) #[true, true, true, true, true, true, true, true, true, true, true, true, true, true, true] rfl rfl (by kernel_rfl) (by decide) (fun K hK => ?_)
         have hs : x4.cell? ⟨w.heap.size + 1 + 1 + 1, 5, none⟩ = some u3 := (blk_cell HT4.out.out 5).trans rfl
         have hf := blk_frozen HT4.out.out 5
         refine skip_ (w1 := ?_) (by rfl) rfl ?_ ?_
         rotate_left
         ·
          go_simp
          rfl
         refine hK.out _ _ ?_
         clear hK K
         refine done_ (by kernel_rfl) ?_
         have HT5 := Aside0.mk (HT4.out.set5 HLB.out (.slice Av (n3 + 1) cv))
         have HR5' := Aside0.mk (Kd.R_set HR4'.out HT4.out.out (by decide) 5 (.slice Av (n3 + 1) cv))
         clear hs hf HT4 HR4' hHeld hx0 hx1 hx2 hx3 HX4
         go_wp2
         go_roundw
         case rel => exact ⟨n3 + 1, _, by omega, by go_num, by rw [take_T75 _ _ hlt, ← all_snoc]; exact HT5.out, by rw [take_T75 _ _ hlt]; exact HR5'.out⟩
         case measure => simp [intOf]; omega
        ·
         obtain ⟨o4, ho⟩ : ∃ o, o = (o3 && s.f2.f3.all (fun f => okV en f.f0)) := ⟨_, rfl⟩
         have HO4 := Aside0.mk ho
         obtain ⟨B3, N3, D3, ev⟩ : ∃ B N D, u3 = .slice B N D := by obtain ⟨B, D, e⟩ := Kd.R_slice HR.out; exact ⟨B, _, D, e⟩
         subst ev
         replace HT := Aside0.mk (show TInv w bo (.bool s.f0) (.slice A1 s.f1.length k1) (.int .i64 s.f2.f0) (.slice A3 s.f2.f1.length k3) (.slice A4 s.f2.f2.length k4) (.slice A5 s.f2.f3.length k5) (.func (.func 16) #[] #[.pointer (some ⟨bo, 0, none⟩), .pointer (some ⟨be, 0, none⟩)]) (o4) (.slice B0 N0 D0) (.slice B1 N1 D1) (.slice B2 N2 D2) (.slice B3 N3 D3) wr by have h := HT.out; rw [List.take_of_length_le (by omega), ← ho] at h; exact h)
         clear ho HR
         have ho0 : wr.cell? ⟨w.heap.size + 1 + 1 + 1, 0, none⟩ = some (.bool s.f0) := (blk_cell HT.out.out 0).trans rfl
         have ho1 : wr.cell? ⟨w.heap.size + 1 + 1 + 1, 1, none⟩ = some (.slice B0 N0 D0) := (blk_cell HT.out.out 1).trans rfl
         have ho2 : wr.cell? ⟨w.heap.size + 1 + 1 + 1, 2, none⟩ = some (.int .i64 s.f2.f0) := (blk_cell HT.out.out 2).trans rfl
         have ho3 : wr.cell? ⟨w.heap.size + 1 + 1 + 1, 3, none⟩ = some (.slice B1 N1 D1) := (blk_cell HT.out.out 3).trans rfl
         have ho4 : wr.cell? ⟨w.heap.size + 1 + 1 + 1, 4, none⟩ = some (.slice B2 N2 D2) := (blk_cell HT.out.out 4).trans rfl
         have ho5 : wr.cell? ⟨w.heap.size + 1 + 1 + 1, 5, none⟩ = some (.slice B3 N3 D3) := (blk_cell HT.out.out 5).trans rfl
         have hr0 : wr.cell? ⟨w.heap.size + 1 + 1, 0, none⟩ = some (.bool false) := (blk_cell HT.out.res 0).trans rfl
         have hr1 : wr.cell? ⟨w.heap.size + 1 + 1, 1, none⟩ = some (.slice none 0 0) := (blk_cell HT.out.res 1).trans rfl
         have hr2 : wr.cell? ⟨w.heap.size + 1 + 1, 2, none⟩ = some (.int .i64 0) := (blk_cell HT.out.res 2).trans rfl
         have hr3 : wr.cell? ⟨w.heap.size + 1 + 1, 3, none⟩ = some (.slice none 0 0) := (blk_cell HT.out.res 3).trans rfl
         have hr4 : wr.cell? ⟨w.heap.size + 1 + 1, 4, none⟩ = some (.slice none 0 0) := (blk_cell HT.out.res 4).trans rfl
         have hr5 : wr.cell? ⟨w.heap.size + 1 + 1, 5, none⟩ = some (.slice none 0 0) := (blk_cell HT.out.res 5).trans rfl
         have hf0 := blk_frozen HT.out.res 0
         have hf1 := blk_frozen HT.out.res 1
         have hf2 := blk_frozen HT.out.res 2
         have hf3 := blk_frozen HT.out.res 3
         have hf4 := blk_frozen HT.out.res 4
         have hf5 := blk_frozen HT.out.res 5
         go_wp2
         refine bodyPost_ret (results_cell_row rfl _ _ (w.heap.size + 1 + 1) 41 #[.bool s.f0, .slice B0 N0 D0, .int .i64 s.f2.f0, .slice B1 N1 D1, .slice B2 N2 D2, .slice B3 N3 D3] (0, 0) _ rfl (by refine blk_put (cs := #[.bool s.f0, .slice B0 N0 D0, .int .i64 s.f2.f0, .slice B1 N1 D1, .slice B2 N2 D2, .slice none 0 0]) ?_ 5 _ rfl; refine blk_put (cs := #[.bool s.f0, .slice B0 N0 D0, .int .i64 s.f2.f0, .slice B1 N1 D1, .slice none 0 0, .slice none 0 0]) ?_ 4 _ rfl; refine blk_put (cs := #[.bool s.f0, .slice B0 N0 D0, .int .i64 s.f2.f0, .slice none 0 0, .slice none 0 0, .slice none 0 0]) ?_ 3 _ rfl; refine blk_put (cs := #[.bool s.f0, .slice B0 N0 D0, .int .i64 0, .slice none 0 0, .slice none 0 0, .slice none 0 0]) ?_ 2 _ rfl; refine blk_put (cs := #[.bool s.f0, .slice none 0 0, .int .i64 0, .slice none 0 0, .slice none 0 0, .slice none 0 0]) ?_ 1 _ rfl; refine blk_put (cs := #[.bool false, .slice none 0 0, .int .i64 0, .slice none 0 0, .slice none 0 0, .slice none 0 0]) ?_ 0 _ rfl; exact HT.out.res) Tryd.underlying41 rfl (by kernel_rfl)) rfl ?_
         refine ⟨_, rfl, ?_, ?_⟩
         · exact grown_new (grown_new (grown_new (grown_new (grown_new (grown_new (HT.out.grown) (by show _ ≤ w.heap.size + 1 + 1; omega) _) (by show _ ≤ w.heap.size + 1 + 1; omega) _) (by show _ ≤ w.heap.size + 1 + 1; omega) _) (by show _ ≤ w.heap.size + 1 + 1; omega) _) (by show _ ≤ w.heap.size + 1 + 1; omega) _) (by show _ ≤ w.heap.size + 1 + 1; omega) _
         ·
          have e : o4 = (ok && okS en s) := by rw [HO4.out, HO3.out, HO2.out, HO1.out]; unfold okS; simp only [Bool.and_assoc]
          rw [← e]
          have hl := HLB.out
          exact blk_far (blk_far (blk_far (blk_far (blk_far (blk_far (HT.out.flag) (by show bo ≠ w.heap.size + 1 + 1; omega) _) (by show bo ≠ w.heap.size + 1 + 1; omega) _) (by show bo ≠ w.heap.size + 1 + 1; omega) _) (by show bo ≠ w.heap.size + 1 + 1; omega) _) (by show bo ≠ w.heap.size + 1 + 1; omega) _) (by show bo ≠ w.heap.size + 1 + 1; omega) _
end Go.Proofs.YtbobgajkboanfaaDoor.B1
