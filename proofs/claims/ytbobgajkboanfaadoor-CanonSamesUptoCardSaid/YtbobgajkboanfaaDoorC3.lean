/- The walk of canon.key: the text of a group. -/
import Derived.Test.YtbobgajkboanfaaDoorM2
import Derived.Test.YtbobgajkboanfaaDoorB4
import Derived.Laws.EntriesVeiled
import Derived.Laws.IdiomStrings
namespace Go.Proofs.YtbobgajkboanfaaDoor.C3
open Go.RowKit Go.Proofs.YtbobgajkboanfaaDoorW.PrintWords Go.Proofs.YtbobgajkboanfaaDoorW.PrintLast Go.Proofs.YtbobgajkboanfaaDoor.PCanonSames
open A1 A2 A3 B0 B1 B2 B4 C1 C2
set_option linter.unusedVariables false
set_option linter.unusedSimpArgs false

def fieldB (f : S75) : List UInt8 := flagB f.f1 ++ valB f.f0
/-- What is written of one type. -/
def keyS (s : S41) : List UInt8 := flagB s.f0 ++ (numB s.f1.length ++ (s.f1.flatMap numB ++ (numB s.f2.f0 ++ (numB s.f2.f1.length ++ (s.f2.f1.flatMap valB ++ (numB s.f2.f2.length ++ (s.f2.f2.flatMap valB ++ (numB s.f2.f3.length ++ s.f2.f3.flatMap fieldB))))))))
def keyB (l : List S41) : List UInt8 := l.flatMap keyS
/-- How many parts a type has. -/
def wtS (s : S41) : Nat := 1 + s.f1.length + s.f2.f1.length + s.f2.f2.length + s.f2.f3.length
def wtT : List S41 → Nat
 | [] => 0
 | s :: r => wtS s + wtT r
/-- Each number is an int. -/
def rngV (v : S72) : Prop := inI v.f0 ∧ inI v.f2
def rngS (s : S41) : Prop := (∀ h, h ∈ s.f1 → inI h) ∧ inI s.f2.f0 ∧ (∀ v, v ∈ s.f2.f1 → rngV v) ∧ (∀ v, v ∈ s.f2.f2 → rngV v) ∧ (∀ f, f ∈ s.f2.f3 → rngV f.f0)

theorem mem_rd (l : List Int) (k : Nat) (h : k < l.length) : rd l k ∈ l := by
 unfold rd; rw [Int.toNat_natCast, List.getD_eq_getElem?_getD, List.getElem?_eq_getElem h]; exact List.getElem_mem h
theorem mem_T72 (l : List S72) (k : Nat) (h : k < l.length) : rd_T72 l k ∈ l := by
 unfold rd_T72; rw [Int.toNat_natCast, List.getD_eq_getElem?_getD, List.getElem?_eq_getElem h]; exact List.getElem_mem h
theorem mem_T75 (l : List S75) (k : Nat) (h : k < l.length) : rd_T75 l k ∈ l := by
 unfold rd_T75; rw [Int.toNat_natCast, List.getD_eq_getElem?_getD, List.getElem?_eq_getElem h]; exact List.getElem_mem h
theorem take_T41 (l : List S41) (k : Nat) (h : k < l.length) : l.take (k + 1) = l.take k ++ [rd_T41 l k] := by
 rw [List.take_succ_eq_append_getElem h]; unfold rd_T41; rw [Int.toNat_natCast, List.getD_eq_getElem?_getD, List.getElem?_eq_getElem h]; rfl
theorem wtT_append (a b : List S41) : wtT (a ++ b) = wtT a + wtT b := by
 induction a with
 | nil => simp [wtT]
 | cons s r ih => simp only [List.cons_append, wtT, ih]; omega
theorem wtT_step (l : List S41) (k : Nat) (h : k < l.length) : wtT (l.take (k + 1)) = wtT (l.take k) + wtS (rd_T41 l k) := by rw [take_T41 l k h, wtT_append]; rfl
theorem wtT_take (l : List S41) (k : Nat) : wtT (l.take k) ≤ wtT l := by
 have := wtT_append (l.take k) (l.drop k)
 rw [List.take_append_drop] at this
 omega
theorem valB_len (v : S72) (h : rngV v) : (valB v).length ≤ 45 := by
 have h0 := numB_len v.f0 h.1.1 h.1.2
 have h1 := flagB_len v.f1
 have h2 := numB_len v.f2 h.2.1 h.2.2
 unfold valB; rw [List.length_append, List.length_append]; omega
theorem flat_snoc {α : Type} (f : α → List UInt8) (P : List UInt8) (l : List α) (x : α) : P ++ (l ++ [x]).flatMap f = (P ++ l.flatMap f) ++ f x := by
 rw [List.flatMap_append]; simp
theorem inI_len {n : Nat} (h : n ≤ 1048576) : inI (n : Int) := by unfold inI; omega

/-- What stands while canon.key runs. -/
structure KInv (w : World) (bs : List UInt8) (wr : World) : Prop where
 txt : Txt w.heap.size w.heap.size bs wr
 nn : wr.heap[w.heap.size + 1]? = some (.cells #[.func (.func 25) #[] #[.pointer (some ⟨w.heap.size, 0, none⟩)]] 78 (0, 0))
 ff : wr.heap[w.heap.size + 1 + 1]? = some (.cells #[.func (.func 27) #[] #[.pointer (some ⟨w.heap.size, 0, none⟩)]] 79 (0, 0))
 below : Below w.heap.size w wr
theorem KInv.step {w wr w1 : World} {bs bs' : List UInt8} (h : KInv w bs wr) (hT : Txt w.heap.size w.heap.size bs' w1) (hF : Frm w.heap.size w.heap.size wr w1) : KInv w bs' w1 :=
 ⟨hT, hF.blk h.nn (by omega) (by decide), hF.blk h.ff (by omega) (by decide), h.below.trans hF.below⟩
theorem KInv.alloc {w wr : World} {bs : List UInt8} (h : KInv w bs wr) (o : Obj) : KInv w bs (wr.alloc o) :=
 ⟨txt_alloc h.txt o, blk_alloc h.nn o, blk_alloc h.ff o, below_alloc h.below o⟩
theorem KInv.size {w wr : World} {bs : List UInt8} (h : KInv w bs wr) : w.heap.size + 1 + 1 < wr.heap.size := blk_lt h.ff

theorem conv_nil (w : World) : (convert 76 9 (.slice none 0 0)).run Tryd.prog w = .ok (.string ⟨#[]⟩) w := by
 rw [run_convert_bytes_string w 76 9 5 none 0 0 Tryd.underlying76 Tryd.underlying5 Tryd.underlying9]
 rfl

set_option maxHeartbeats 16000000 in
set_option maxRecDepth 100000 in
theorem key (l : List S41) (A : Option Addr) (c : Nat) (w : World) (hr : k41.C w A l.length l) (hm : wtT l ≤ 1048576) (hml : l.length ≤ 1048576) (hrg : ∀ s, s ∈ l → rngS s)
 (htab : TAB w.heap.size w) :
 Calls Tryd.prog 19 #[.slice A l.length c] w fun e w' => e = .returned (.string ⟨(keyB l).toArray⟩) ∧ Below w.heap.size w w' := by
 have HR := Aside0.mk hr
 have HG := Aside0.mk hrg
 have HM := Aside0.mk hm
 have HTB := Aside0.mk htab
 clear hr hrg hm htab
 have hmf : ∀ (fn : Fn) (first cap : Array Value) (w : World), (Instr.makeFunc fn first cap).run Tryd.prog w = .ok (.func fn first cap) w := fun _ _ _ _ => rfl
 go_enter Tryd.func19, Tryd.ntmps19
 go_wp2
 go_loopw [23] (fun v23 wr => ∃ (i : Nat) (bs : List UInt8), i ≤ l.length ∧ v23 = .int .i64 i ∧ Aside0 (bs = keyB (l.take i)) ∧ bs.length ≤ 200 * wtT (l.take i) ∧ Aside0 (KInv w bs wr)) (fun v23 _ => l.length - (intOf v23).toNat)
 case atStart =>
  exact ⟨0, [], Nat.zero_le _, rfl, ⟨rfl⟩, Nat.zero_le _, ⟨⟨.slice none 0 0, blk_alloc (blk_alloc (blk_new w _) _) _, own_nil _ _ _ _⟩, blk_alloc (B0.blk_at (by simp) _) _, B0.blk_at (by simp) _, below_alloc (below_alloc (below_alloc (Below.refl _ _) _) _) _⟩⟩
 case round =>
  obtain ⟨i, bs, hi, rfl, HBS, hbl, HI⟩ := hrel
  obtain ⟨wo, rfl⟩ : ∃ wo : World, wo = wr := ⟨_, rfl⟩
  by_cases hlt : i < l.length
  ·
   have i0 : (0 : Int) ≤ (i : Int) := Int.natCast_nonneg _
   have i1 : (i : Int) < (l.length : Int) := by omega
   have hw := wtT_step l i hlt
   have hw2 := wtT_take l (i + 1)
   have hw3 := HM.out
   have hws : wtS (rd_T41 l ↑i) = 1 + (rd_T41 l ↑i).f1.length + (rd_T41 l ↑i).f2.f1.length + (rd_T41 l ↑i).f2.f2.length + (rd_T41 l ↑i).f2.f3.length := rfl
   have HGS := Aside0.mk (HG.out _ (mem_T41 l i hlt))
   have lim : bs.length + 200 * wtS (rd_T41 l ↑i) ≤ 209715200 := by omega
   have z0 : (rd_T41 l ↑i).f1.length ≤ 1048576 := by omega
   have z1 : (rd_T41 l ↑i).f2.f1.length ≤ 1048576 := by omega
   have z2 : (rd_T41 l ↑i).f2.f2.length ≤ 1048576 := by omega
   have z3 : (rd_T41 l ↑i).f2.f3.length ≤ 1048576 := by omega
   have HW := Aside0.mk hw
   clear hw hw2 hw3
   have HWS := Aside0.mk hws
   obtain ⟨WS, hWS⟩ : ∃ n, n = wtS (rd_T41 l ↑i) := ⟨_, rfl⟩
   rw [← hWS] at lim hws
   have HWE := Aside0.mk hWS
   clear hWS
   obtain ⟨ad2, A1, k1, A3, k3, A4, k4, A5, k5, eA, hx0, hx1, hx2, hx3, hx4, hx5, hl1, hc1, hl3, hc3, hl4, hc4, hl5, hc5⟩ := at_T41 HR.out (i : Int) i0 i1
   cases eA
   have HC1 := Aside0.mk hc1
   have HC3 := Aside0.mk hc3
   have HC4 := Aside0.mk hc4
   have HC5 := Aside0.mk hc5
   clear hc1 hc3 hc4 hc5 hl1 hl3 hl4 hl5
   replace hx0 := pw_cell_below HI.out.below hx0
   replace hx1 := pw_cell_below HI.out.below hx1
   replace hx2 := pw_cell_below HI.out.below hx2
   replace hx3 := pw_cell_below HI.out.below hx3
   replace hx4 := pw_cell_below HI.out.below hx4
   replace hx5 := pw_cell_below HI.out.below hx5
   rw [Int.toNat_natCast] at hx0 hx1 hx2 hx3 hx4 hx5
   have HX := Aside0.mk (blk_new wo (.cells #[.bool (rd_T41 l ↑i).f0, .slice A1 (rd_T41 l ↑i).f1.length k1, .int .i64 (rd_T41 l ↑i).f2.f0, .slice A3 (rd_T41 l ↑i).f2.f1.length k3, .slice A4 (rd_T41 l ↑i).f2.f2.length k4, .slice A5 (rd_T41 l ↑i).f2.f3.length k5] 41))
   have HXN := Aside0.mk (show wo.heap.size ≠ w.heap.size by have := HI.out.size; omega)
   replace HI := Aside0.mk (HI.out.alloc (.cells #[.bool (rd_T41 l ↑i).f0, .slice A1 (rd_T41 l ↑i).f1.length k1, .int .i64 (rd_T41 l ↑i).f2.f0, .slice A3 (rd_T41 l ↑i).f2.f1.length k3, .slice A4 (rd_T41 l ↑i).f2.f2.length k4, .slice A5 (rd_T41 l ↑i).f2.f3.length k5] 41))
   have f1 : (wo.alloc (.cells #[.bool (rd_T41 l ↑i).f0, .slice A1 (rd_T41 l ↑i).f1.length k1, .int .i64 (rd_T41 l ↑i).f2.f0, .slice A3 (rd_T41 l ↑i).f2.f1.length k3, .slice A4 (rd_T41 l ↑i).f2.f2.length k4, .slice A5 (rd_T41 l ↑i).f2.f3.length k5] 41)).cell? ⟨w.heap.size + 1 + 1, 0, none⟩ = some (.func (.func 27) #[] #[.pointer (some ⟨w.heap.size, 0, none⟩)]) := (blk_cell HI.out.ff 0).trans rfl
   go_wp2_with (go_at_call 27; go_loud (refine (key2 ((rd_T41 l ↑i).f0) w.heap.size w.heap.size bs _ HI.out.txt (Nat.le_refl _) (by omega)).mono ?_); rintro e w1 ⟨rfl, hT, hF⟩; refine Hid.out ?_)
   refine Lib.hid ?_
   replace HI := Aside0.mk (HI.out.step hT hF)
   replace HX := Aside0.mk (hF.blk HX.out HXN.out (by decide))
   obtain ⟨b1, hb1⟩ : ∃ b, b = bs ++ flagB ((rd_T41 l ↑i).f0) := ⟨_, rfl⟩
   rw [← hb1] at HI
   have lb1 : b1.length ≤ bs.length + 1 := by rw [hb1, List.length_append]; have := flagB_len ((rd_T41 l ↑i).f0); omega
   have Hb1 := Aside0.mk hb1
   clear hb1 hT hF f1 hx0 hx1 hx2 hx3 hx4 hx5
   have f1 : w1.cell? ⟨w.heap.size + 1, 0, none⟩ = some (.func (.func 25) #[] #[.pointer (some ⟨w.heap.size, 0, none⟩)]) := (blk_cell HI.out.nn 0).trans rfl
   have g1 : w1.cell? ⟨wo.heap.size, 1, none⟩ = some (.slice A1 (rd_T41 l ↑i).f1.length k1) := (blk_cell HX.out 1).trans rfl
   go_wp2_with (go_at_call 25; go_loud (refine (key1 (((rd_T41 l ↑i).f1.length : Int)) (inI_len z0).1 (inI_len z0).2 w.heap.size w.heap.size b1 _ HI.out.txt (Nat.le_refl _) (by omega) (HTB.out.on HI.out.below)).mono ?_); rintro e w2 ⟨rfl, hT, hF⟩; refine Hid.out ?_)
   refine Lib.hid ?_
   replace HI := Aside0.mk (HI.out.step hT hF)
   replace HX := Aside0.mk (hF.blk HX.out HXN.out (by decide))
   obtain ⟨b2, hb2⟩ : ∃ b, b = b1 ++ numB (((rd_T41 l ↑i).f1.length : Int)) := ⟨_, rfl⟩
   rw [← hb2] at HI
   have lb2 : b2.length ≤ b1.length + 22 := by rw [hb2, List.length_append]; have := numB_len (((rd_T41 l ↑i).f1.length : Int)) (inI_len z0).1 (inI_len z0).2; omega
   have Hb2 := Aside0.mk hb2
   clear hb2 hT hF f1 g1
   have g1 : w2.cell? ⟨wo.heap.size, 1, none⟩ = some (.slice A1 (rd_T41 l ↑i).f1.length k1) := (blk_cell HX.out 1).trans rfl
   go_wp2
   go_loopw [39] (fun v39 wr => ∃ (q : Nat) (t : List UInt8), q ≤ (rd_T41 l ↑i).f1.length ∧ v39 = .int .i64 q ∧ Aside0 (t = b2 ++ ((rd_T41 l ↑i).f1.take q).flatMap numB) ∧ t.length ≤ b2.length + 22 * q ∧ Aside0 (KInv w t wr) ∧ Aside0 (wr.heap[wo.heap.size]? = some (.cells #[.bool (rd_T41 l ↑i).f0, .slice A1 (rd_T41 l ↑i).f1.length k1, .int .i64 (rd_T41 l ↑i).f2.f0, .slice A3 (rd_T41 l ↑i).f2.f1.length k3, .slice A4 (rd_T41 l ↑i).f2.f2.length k4, .slice A5 (rd_T41 l ↑i).f2.f3.length k5] 41))) (fun v39 _ => (rd_T41 l ↑i).f1.length - (intOf v39).toNat)
   case atStart => exact ⟨0, b2, Nat.zero_le _, rfl, ⟨by simp⟩, by omega, HI, HX⟩
   case round =>
    clear HI HX g1
    obtain ⟨q, t, hq, rfl, HQ, tl, HI, HX⟩ := hrel
    obtain ⟨wq, rfl⟩ : ∃ wq : World, wq = wr := ⟨_, rfl⟩
    by_cases hlq : q < (rd_T41 l ↑i).f1.length
    ·
     have q0 : (0 : Int) ≤ (q : Int) := Int.natCast_nonneg _
     have q1 : (q : Int) < ((rd_T41 l ↑i).f1.length : Int) := by omega
     obtain ⟨ad3, eA, hx⟩ := Kd.at_int HC1.out (q : Int) q0 q1
     cases eA
     replace hx := pw_cell_below HI.out.below hx
     rw [Int.toNat_natCast] at hx
     have HRX := Aside0.mk (HGS.out.1 _ (mem_rd (rd_T41 l ↑i).f1 q hlq))
     have f1 : wq.cell? ⟨w.heap.size + 1, 0, none⟩ = some (.func (.func 25) #[] #[.pointer (some ⟨w.heap.size, 0, none⟩)]) := (blk_cell HI.out.nn 0).trans rfl
     go_wp2_with (go_at_call 25; go_loud (refine (key1 (rd (rd_T41 l ↑i).f1 ↑q) (HRX.out).1 (HRX.out).2 w.heap.size w.heap.size t _ HI.out.txt (Nat.le_refl _) (by omega) (HTB.out.on HI.out.below)).mono ?_); rintro e w3 ⟨rfl, hT, hF⟩; refine Hid.out ?_)
     refine Lib.hid ?_
     replace HI := Aside0.mk (HI.out.step hT hF)
     replace HX := Aside0.mk (hF.blk HX.out HXN.out (by decide))
     obtain ⟨t1, ht1⟩ : ∃ b, b = t ++ numB (rd (rd_T41 l ↑i).f1 ↑q) := ⟨_, rfl⟩
     rw [← ht1] at HI
     have lt1 : t1.length ≤ t.length + 22 := by rw [ht1, List.length_append]; have := numB_len (rd (rd_T41 l ↑i).f1 ↑q) (HRX.out).1 (HRX.out).2; omega
     have Ht1 := Aside0.mk ht1
     clear ht1 hT hF f1 hx
     go_wp2
     go_roundw
     case rel => exact ⟨q + 1, t1, by omega, by go_num, ⟨by rw [Ht1.out, HQ.out, take_rd _ _ hlq, flat_snoc]⟩, by omega, HI, HX⟩
     case measure => simp [intOf]; omega
    ·
     skip
     have Hb3 := Aside0.mk (show t = b2 ++ (rd_T41 l ↑i).f1.flatMap numB by have h := HQ.out; rw [List.take_of_length_le (by omega)] at h; exact h)
     obtain ⟨b3, eb3⟩ : ∃ b, b = t := ⟨_, rfl⟩
     rw [← eb3] at Hb3 HI tl
     have lb3 : b3.length ≤ b2.length + 22 * (rd_T41 l ↑i).f1.length := by omega
     clear HQ eb3 tl
     have g2 : wq.cell? ⟨wo.heap.size, 2, none⟩ = some (.int .i64 (rd_T41 l ↑i).f2.f0) := (blk_cell HX.out 2).trans rfl
     have g3 : wq.cell? ⟨wo.heap.size, 3, none⟩ = some (.slice A3 (rd_T41 l ↑i).f2.f1.length k3) := (blk_cell HX.out 3).trans rfl
     have g4 : wq.cell? ⟨wo.heap.size, 4, none⟩ = some (.slice A4 (rd_T41 l ↑i).f2.f2.length k4) := (blk_cell HX.out 4).trans rfl
     have g5 : wq.cell? ⟨wo.heap.size, 5, none⟩ = some (.slice A5 (rd_T41 l ↑i).f2.f3.length k5) := (blk_cell HX.out 5).trans rfl
     have HY := Aside0.mk (blk_new wq (.cells #[.int .i64 (rd_T41 l ↑i).f2.f0, .slice A3 (rd_T41 l ↑i).f2.f1.length k3, .slice A4 (rd_T41 l ↑i).f2.f2.length k4, .slice A5 (rd_T41 l ↑i).f2.f3.length k5] 39))
     have HYN := Aside0.mk (show wq.heap.size ≠ w.heap.size by have := HI.out.size; omega)
     have hsx : w.heap.size + 1 < wq.heap.size := by have := HI.out.size; omega
     replace HI := Aside0.mk (HI.out.alloc (.cells #[.int .i64 (rd_T41 l ↑i).f2.f0, .slice A3 (rd_T41 l ↑i).f2.f1.length k3, .slice A4 (rd_T41 l ↑i).f2.f2.length k4, .slice A5 (rd_T41 l ↑i).f2.f3.length k5] 39))
     have f1 : (wq.alloc (.cells #[.int .i64 (rd_T41 l ↑i).f2.f0, .slice A3 (rd_T41 l ↑i).f2.f1.length k3, .slice A4 (rd_T41 l ↑i).f2.f2.length k4, .slice A5 (rd_T41 l ↑i).f2.f3.length k5] 39)).cell? ⟨w.heap.size + 1, 0, none⟩ = some (.func (.func 25) #[] #[.pointer (some ⟨w.heap.size, 0, none⟩)]) := (blk_cell HI.out.nn 0).trans rfl
     go_wp2_with (go_at_call 25; go_loud (refine (key1 ((rd_T41 l ↑i).f2.f0) (HGS.out.2.1).1 (HGS.out.2.1).2 w.heap.size w.heap.size b3 _ HI.out.txt (Nat.le_refl _) (by omega) (HTB.out.on HI.out.below)).mono ?_); rintro e w4 ⟨rfl, hT, hF⟩; refine Hid.out ?_)
     refine Lib.hid ?_
     replace HI := Aside0.mk (HI.out.step hT hF)
     replace HY := Aside0.mk (hF.blk HY.out HYN.out (by decide))
     obtain ⟨b4, hb4⟩ : ∃ b, b = b3 ++ numB ((rd_T41 l ↑i).f2.f0) := ⟨_, rfl⟩
     rw [← hb4] at HI
     have lb4 : b4.length ≤ b3.length + 22 := by rw [hb4, List.length_append]; have := numB_len ((rd_T41 l ↑i).f2.f0) (HGS.out.2.1).1 (HGS.out.2.1).2; omega
     have Hb4 := Aside0.mk hb4
     clear hb4 hT hF f1 g2 g3 g4 g5 hsx HX
     have f1 : w4.cell? ⟨w.heap.size + 1, 0, none⟩ = some (.func (.func 25) #[] #[.pointer (some ⟨w.heap.size, 0, none⟩)]) := (blk_cell HI.out.nn 0).trans rfl
     have g1 : w4.cell? ⟨wq.heap.size, 1, none⟩ = some (.slice A3 (rd_T41 l ↑i).f2.f1.length k3) := (blk_cell HY.out 1).trans rfl
     go_wp2_with (go_at_call 25; go_loud (refine (key1 (((rd_T41 l ↑i).f2.f1.length : Int)) (inI_len z1).1 (inI_len z1).2 w.heap.size w.heap.size b4 _ HI.out.txt (Nat.le_refl _) (by omega) (HTB.out.on HI.out.below)).mono ?_); rintro e w5 ⟨rfl, hT, hF⟩; refine Hid.out ?_)
     refine Lib.hid ?_
     replace HI := Aside0.mk (HI.out.step hT hF)
     replace HY := Aside0.mk (hF.blk HY.out HYN.out (by decide))
     obtain ⟨b5, hb5⟩ : ∃ b, b = b4 ++ numB (((rd_T41 l ↑i).f2.f1.length : Int)) := ⟨_, rfl⟩
     rw [← hb5] at HI
     have lb5 : b5.length ≤ b4.length + 22 := by rw [hb5, List.length_append]; have := numB_len (((rd_T41 l ↑i).f2.f1.length : Int)) (inI_len z1).1 (inI_len z1).2; omega
     have Hb5 := Aside0.mk hb5
     clear hb5 hT hF f1 g1
     have g1 : w5.cell? ⟨wq.heap.size, 1, none⟩ = some (.slice A3 (rd_T41 l ↑i).f2.f1.length k3) := (blk_cell HY.out 1).trans rfl
     go_wp2
     go_loopw [61] (fun v61 wr => ∃ (q : Nat) (t : List UInt8), q ≤ (rd_T41 l ↑i).f2.f1.length ∧ v61 = .int .i64 q ∧ Aside0 (t = b5 ++ ((rd_T41 l ↑i).f2.f1.take q).flatMap valB) ∧ t.length ≤ b5.length + 45 * q ∧ Aside0 (KInv w t wr) ∧ Aside0 (wr.heap[wq.heap.size]? = some (.cells #[.int .i64 (rd_T41 l ↑i).f2.f0, .slice A3 (rd_T41 l ↑i).f2.f1.length k3, .slice A4 (rd_T41 l ↑i).f2.f2.length k4, .slice A5 (rd_T41 l ↑i).f2.f3.length k5] 39))) (fun v61 _ => (rd_T41 l ↑i).f2.f1.length - (intOf v61).toNat)
     case atStart => exact ⟨0, b5, Nat.zero_le _, rfl, ⟨by simp⟩, by omega, HI, HY⟩
     case round =>
      clear HI HY g1
      obtain ⟨q, t, hq, rfl, HQ, tl, HI, HY⟩ := hrel
      obtain ⟨wx, rfl⟩ : ∃ wx : World, wx = wr := ⟨_, rfl⟩
      by_cases hlq : q < (rd_T41 l ↑i).f2.f1.length
      ·
       have q0 : (0 : Int) ≤ (q : Int) := Int.natCast_nonneg _
       have q1 : (q : Int) < ((rd_T41 l ↑i).f2.f1.length : Int) := by omega
       obtain ⟨ad3, eA, hx0, hx1, hx2⟩ := at_T72 HC3.out (q : Int) q0 q1
       cases eA
       replace hx0 := pw_cell_below HI.out.below hx0
       replace hx1 := pw_cell_below HI.out.below hx1
       replace hx2 := pw_cell_below HI.out.below hx2
       rw [Int.toNat_natCast] at hx0 hx1 hx2
       have HRX := Aside0.mk (HGS.out.2.2.1 _ (mem_T72 (rd_T41 l ↑i).f2.f1 q hlq))
       replace HI := Aside0.mk (HI.out.alloc (.cells #[.int .i64 (rd_T72 (rd_T41 l ↑i).f2.f1 ↑q).f0, .bool (rd_T72 (rd_T41 l ↑i).f2.f1 ↑q).f1, .int .i64 (rd_T72 (rd_T41 l ↑i).f2.f1 ↑q).f2] 72))
       replace HY := Aside0.mk (blk_alloc HY.out (.cells #[.int .i64 (rd_T72 (rd_T41 l ↑i).f2.f1 ↑q).f0, .bool (rd_T72 (rd_T41 l ↑i).f2.f1 ↑q).f1, .int .i64 (rd_T72 (rd_T41 l ↑i).f2.f1 ↑q).f2] 72))
       go_wp2_with (go_at_call 28; go_loud (refine (key3 (rd_T72 (rd_T41 l ↑i).f2.f1 ↑q) (HRX.out).1 (HRX.out).2 w.heap.size w.heap.size (w.heap.size + 1) (w.heap.size + 1 + 1) t _ HI.out.txt (Nat.le_refl _) (by omega) (HTB.out.on HI.out.below) HI.out.nn HI.out.ff).mono ?_); rintro e v3 ⟨rfl, hT, hF⟩; refine Hid.out ?_)
       refine Lib.hid ?_
       replace HI := Aside0.mk (HI.out.step hT hF)
       replace HY := Aside0.mk (hF.blk HY.out HYN.out (by decide))
       obtain ⟨t1, ht1⟩ : ∃ b, b = t ++ valB (rd_T72 (rd_T41 l ↑i).f2.f1 ↑q) := ⟨_, rfl⟩
       rw [← ht1] at HI
       have lt1 : t1.length ≤ t.length + 45 := by rw [ht1, List.length_append]; have := valB_len (rd_T72 (rd_T41 l ↑i).f2.f1 ↑q) (HRX.out); omega
       have Ht1 := Aside0.mk ht1
       clear ht1 hT hF hx0 hx1 hx2
       go_wp2
       go_roundw
       case rel => exact ⟨q + 1, t1, by omega, by go_num, ⟨by rw [Ht1.out, HQ.out, take_T72 _ _ hlq, flat_snoc]⟩, by omega, HI, HY⟩
       case measure => simp [intOf]; omega
      ·
       skip
       have Hb6 := Aside0.mk (show t = b5 ++ (rd_T41 l ↑i).f2.f1.flatMap valB by have h := HQ.out; rw [List.take_of_length_le (by omega)] at h; exact h)
       obtain ⟨b6, eb6⟩ : ∃ b, b = t := ⟨_, rfl⟩
       rw [← eb6] at Hb6 HI tl
       have lb6 : b6.length ≤ b5.length + 45 * (rd_T41 l ↑i).f2.f1.length := by omega
       clear HQ eb6 tl
       have f1 : wx.cell? ⟨w.heap.size + 1, 0, none⟩ = some (.func (.func 25) #[] #[.pointer (some ⟨w.heap.size, 0, none⟩)]) := (blk_cell HI.out.nn 0).trans rfl
       have g1 : wx.cell? ⟨wq.heap.size, 2, none⟩ = some (.slice A4 (rd_T41 l ↑i).f2.f2.length k4) := (blk_cell HY.out 2).trans rfl
       go_wp2_with (go_at_call 25; go_loud (refine (key1 (((rd_T41 l ↑i).f2.f2.length : Int)) (inI_len z2).1 (inI_len z2).2 w.heap.size w.heap.size b6 _ HI.out.txt (Nat.le_refl _) (by omega) (HTB.out.on HI.out.below)).mono ?_); rintro e w6 ⟨rfl, hT, hF⟩; refine Hid.out ?_)
       refine Lib.hid ?_
       replace HI := Aside0.mk (HI.out.step hT hF)
       replace HY := Aside0.mk (hF.blk HY.out HYN.out (by decide))
       obtain ⟨b7, hb7⟩ : ∃ b, b = b6 ++ numB (((rd_T41 l ↑i).f2.f2.length : Int)) := ⟨_, rfl⟩
       rw [← hb7] at HI
       have lb7 : b7.length ≤ b6.length + 22 := by rw [hb7, List.length_append]; have := numB_len (((rd_T41 l ↑i).f2.f2.length : Int)) (inI_len z2).1 (inI_len z2).2; omega
       have Hb7 := Aside0.mk hb7
       clear hb7 hT hF f1 g1
       have g1 : w6.cell? ⟨wq.heap.size, 2, none⟩ = some (.slice A4 (rd_T41 l ↑i).f2.f2.length k4) := (blk_cell HY.out 2).trans rfl
       go_wp2
       go_loopw [77] (fun v77 wr => ∃ (q : Nat) (t : List UInt8), q ≤ (rd_T41 l ↑i).f2.f2.length ∧ v77 = .int .i64 q ∧ Aside0 (t = b7 ++ ((rd_T41 l ↑i).f2.f2.take q).flatMap valB) ∧ t.length ≤ b7.length + 45 * q ∧ Aside0 (KInv w t wr) ∧ Aside0 (wr.heap[wq.heap.size]? = some (.cells #[.int .i64 (rd_T41 l ↑i).f2.f0, .slice A3 (rd_T41 l ↑i).f2.f1.length k3, .slice A4 (rd_T41 l ↑i).f2.f2.length k4, .slice A5 (rd_T41 l ↑i).f2.f3.length k5] 39))) (fun v77 _ => (rd_T41 l ↑i).f2.f2.length - (intOf v77).toNat)
       case atStart => exact ⟨0, b7, Nat.zero_le _, rfl, ⟨by simp⟩, by omega, HI, HY⟩
       case round =>
        clear HI HY g1
        obtain ⟨q, t, hq, rfl, HQ, tl, HI, HY⟩ := hrel
        obtain ⟨wx, rfl⟩ : ∃ wx : World, wx = wr := ⟨_, rfl⟩
        by_cases hlq : q < (rd_T41 l ↑i).f2.f2.length
        ·
         have q0 : (0 : Int) ≤ (q : Int) := Int.natCast_nonneg _
         have q1 : (q : Int) < ((rd_T41 l ↑i).f2.f2.length : Int) := by omega
         obtain ⟨ad3, eA, hx0, hx1, hx2⟩ := at_T72 HC4.out (q : Int) q0 q1
         cases eA
         replace hx0 := pw_cell_below HI.out.below hx0
         replace hx1 := pw_cell_below HI.out.below hx1
         replace hx2 := pw_cell_below HI.out.below hx2
         rw [Int.toNat_natCast] at hx0 hx1 hx2
         have HRX := Aside0.mk (HGS.out.2.2.2.1 _ (mem_T72 (rd_T41 l ↑i).f2.f2 q hlq))
         replace HI := Aside0.mk (HI.out.alloc (.cells #[.int .i64 (rd_T72 (rd_T41 l ↑i).f2.f2 ↑q).f0, .bool (rd_T72 (rd_T41 l ↑i).f2.f2 ↑q).f1, .int .i64 (rd_T72 (rd_T41 l ↑i).f2.f2 ↑q).f2] 72))
         replace HY := Aside0.mk (blk_alloc HY.out (.cells #[.int .i64 (rd_T72 (rd_T41 l ↑i).f2.f2 ↑q).f0, .bool (rd_T72 (rd_T41 l ↑i).f2.f2 ↑q).f1, .int .i64 (rd_T72 (rd_T41 l ↑i).f2.f2 ↑q).f2] 72))
         go_wp2_with (go_at_call 28; go_loud (refine (key3 (rd_T72 (rd_T41 l ↑i).f2.f2 ↑q) (HRX.out).1 (HRX.out).2 w.heap.size w.heap.size (w.heap.size + 1) (w.heap.size + 1 + 1) t _ HI.out.txt (Nat.le_refl _) (by omega) (HTB.out.on HI.out.below) HI.out.nn HI.out.ff).mono ?_); rintro e v3 ⟨rfl, hT, hF⟩; refine Hid.out ?_)
         refine Lib.hid ?_
         replace HI := Aside0.mk (HI.out.step hT hF)
         replace HY := Aside0.mk (hF.blk HY.out HYN.out (by decide))
         obtain ⟨t1, ht1⟩ : ∃ b, b = t ++ valB (rd_T72 (rd_T41 l ↑i).f2.f2 ↑q) := ⟨_, rfl⟩
         rw [← ht1] at HI
         have lt1 : t1.length ≤ t.length + 45 := by rw [ht1, List.length_append]; have := valB_len (rd_T72 (rd_T41 l ↑i).f2.f2 ↑q) (HRX.out); omega
         have Ht1 := Aside0.mk ht1
         clear ht1 hT hF hx0 hx1 hx2
         go_wp2
         go_roundw
         case rel => exact ⟨q + 1, t1, by omega, by go_num, ⟨by rw [Ht1.out, HQ.out, take_T72 _ _ hlq, flat_snoc]⟩, by omega, HI, HY⟩
         case measure => simp [intOf]; omega
        ·
         skip
         have Hb8 := Aside0.mk (show t = b7 ++ (rd_T41 l ↑i).f2.f2.flatMap valB by have h := HQ.out; rw [List.take_of_length_le (by omega)] at h; exact h)
         obtain ⟨b8, eb8⟩ : ∃ b, b = t := ⟨_, rfl⟩
         rw [← eb8] at Hb8 HI tl
         have lb8 : b8.length ≤ b7.length + 45 * (rd_T41 l ↑i).f2.f2.length := by omega
         clear HQ eb8 tl
         have f1 : wx.cell? ⟨w.heap.size + 1, 0, none⟩ = some (.func (.func 25) #[] #[.pointer (some ⟨w.heap.size, 0, none⟩)]) := (blk_cell HI.out.nn 0).trans rfl
         have g1 : wx.cell? ⟨wq.heap.size, 3, none⟩ = some (.slice A5 (rd_T41 l ↑i).f2.f3.length k5) := (blk_cell HY.out 3).trans rfl
         go_wp2_with (go_at_call 25; go_loud (refine (key1 (((rd_T41 l ↑i).f2.f3.length : Int)) (inI_len z3).1 (inI_len z3).2 w.heap.size w.heap.size b8 _ HI.out.txt (Nat.le_refl _) (by omega) (HTB.out.on HI.out.below)).mono ?_); rintro e w7 ⟨rfl, hT, hF⟩; refine Hid.out ?_)
         refine Lib.hid ?_
         replace HI := Aside0.mk (HI.out.step hT hF)
         replace HY := Aside0.mk (hF.blk HY.out HYN.out (by decide))
         obtain ⟨b9, hb9⟩ : ∃ b, b = b8 ++ numB (((rd_T41 l ↑i).f2.f3.length : Int)) := ⟨_, rfl⟩
         rw [← hb9] at HI
         have lb9 : b9.length ≤ b8.length + 22 := by rw [hb9, List.length_append]; have := numB_len (((rd_T41 l ↑i).f2.f3.length : Int)) (inI_len z3).1 (inI_len z3).2; omega
         have Hb9 := Aside0.mk hb9
         clear hb9 hT hF f1 g1
         have g1 : w7.cell? ⟨wq.heap.size, 3, none⟩ = some (.slice A5 (rd_T41 l ↑i).f2.f3.length k5) := (blk_cell HY.out 3).trans rfl
         go_wp2
         go_loopw [93] (fun v93 wr => ∃ (q : Nat) (t : List UInt8), q ≤ (rd_T41 l ↑i).f2.f3.length ∧ v93 = .int .i64 q ∧ Aside0 (t = b9 ++ ((rd_T41 l ↑i).f2.f3.take q).flatMap fieldB) ∧ t.length ≤ b9.length + 46 * q ∧ Aside0 (KInv w t wr) ∧ Aside0 (wr.heap[wq.heap.size]? = some (.cells #[.int .i64 (rd_T41 l ↑i).f2.f0, .slice A3 (rd_T41 l ↑i).f2.f1.length k3, .slice A4 (rd_T41 l ↑i).f2.f2.length k4, .slice A5 (rd_T41 l ↑i).f2.f3.length k5] 39))) (fun v93 _ => (rd_T41 l ↑i).f2.f3.length - (intOf v93).toNat)
         case atStart => exact ⟨0, b9, Nat.zero_le _, rfl, ⟨by simp⟩, by omega, HI, HY⟩
         case round =>
          clear HI HY g1
          obtain ⟨q, t, hq, rfl, HQ, tl, HI, HY⟩ := hrel
          obtain ⟨wx, rfl⟩ : ∃ wx : World, wx = wr := ⟨_, rfl⟩
          by_cases hlq : q < (rd_T41 l ↑i).f2.f3.length
          ·
           have q0 : (0 : Int) ≤ (q : Int) := Int.natCast_nonneg _
           have q1 : (q : Int) < ((rd_T41 l ↑i).f2.f3.length : Int) := by omega
           obtain ⟨ad3, eA, hx0, hx1, hx2, hx3⟩ := at_T75 HC5.out (q : Int) q0 q1
           cases eA
           replace hx0 := pw_cell_below HI.out.below hx0
           replace hx1 := pw_cell_below HI.out.below hx1
           replace hx2 := pw_cell_below HI.out.below hx2
           replace hx3 := pw_cell_below HI.out.below hx3
           rw [Int.toNat_natCast] at hx0 hx1 hx2 hx3
           have HRX := Aside0.mk (HGS.out.2.2.2.2 _ (mem_T75 (rd_T41 l ↑i).f2.f3 q hlq))
           have HZ := Aside0.mk (blk_new wx (.cells #[.int .i64 (rd_T75 (rd_T41 l ↑i).f2.f3 ↑q).f0.f0, .bool (rd_T75 (rd_T41 l ↑i).f2.f3 ↑q).f0.f1, .int .i64 (rd_T75 (rd_T41 l ↑i).f2.f3 ↑q).f0.f2, .bool (rd_T75 (rd_T41 l ↑i).f2.f3 ↑q).f1] 75))
           have HZN := Aside0.mk (show wx.heap.size ≠ w.heap.size by have := HI.out.size; omega)
           replace HI := Aside0.mk (HI.out.alloc (.cells #[.int .i64 (rd_T75 (rd_T41 l ↑i).f2.f3 ↑q).f0.f0, .bool (rd_T75 (rd_T41 l ↑i).f2.f3 ↑q).f0.f1, .int .i64 (rd_T75 (rd_T41 l ↑i).f2.f3 ↑q).f0.f2, .bool (rd_T75 (rd_T41 l ↑i).f2.f3 ↑q).f1] 75))
           replace HY := Aside0.mk (blk_alloc HY.out (.cells #[.int .i64 (rd_T75 (rd_T41 l ↑i).f2.f3 ↑q).f0.f0, .bool (rd_T75 (rd_T41 l ↑i).f2.f3 ↑q).f0.f1, .int .i64 (rd_T75 (rd_T41 l ↑i).f2.f3 ↑q).f0.f2, .bool (rd_T75 (rd_T41 l ↑i).f2.f3 ↑q).f1] 75))
           have f1 : (wx.alloc (.cells #[.int .i64 (rd_T75 (rd_T41 l ↑i).f2.f3 ↑q).f0.f0, .bool (rd_T75 (rd_T41 l ↑i).f2.f3 ↑q).f0.f1, .int .i64 (rd_T75 (rd_T41 l ↑i).f2.f3 ↑q).f0.f2, .bool (rd_T75 (rd_T41 l ↑i).f2.f3 ↑q).f1] 75)).cell? ⟨w.heap.size + 1 + 1, 0, none⟩ = some (.func (.func 27) #[] #[.pointer (some ⟨w.heap.size, 0, none⟩)]) := (blk_cell HI.out.ff 0).trans rfl
           go_wp2_with (go_at_call 27; go_loud (refine (key2 ((rd_T75 (rd_T41 l ↑i).f2.f3 ↑q).f1) w.heap.size w.heap.size t _ HI.out.txt (Nat.le_refl _) (by omega)).mono ?_); rintro e v3 ⟨rfl, hT, hF⟩; refine Hid.out ?_)
           refine Lib.hid ?_
           replace HI := Aside0.mk (HI.out.step hT hF)
           replace HY := Aside0.mk (hF.blk HY.out HYN.out (by decide))
           replace HZ := Aside0.mk (hF.blk HZ.out HZN.out (by decide))
           obtain ⟨t1, ht1⟩ : ∃ b, b = t ++ flagB ((rd_T75 (rd_T41 l ↑i).f2.f3 ↑q).f1) := ⟨_, rfl⟩
           rw [← ht1] at HI
           have lt1 : t1.length ≤ t.length + 1 := by rw [ht1, List.length_append]; have := flagB_len ((rd_T75 (rd_T41 l ↑i).f2.f3 ↑q).f1); omega
           have Ht1 := Aside0.mk ht1
           clear ht1 hT hF f1 hx0 hx1 hx2 hx3
           have y0 : v3.cell? ⟨wx.heap.size, 0, none⟩ = some (.int .i64 (rd_T75 (rd_T41 l ↑i).f2.f3 ↑q).f0.f0) := (blk_cell HZ.out 0).trans rfl
           have y1 : v3.cell? ⟨wx.heap.size, 1, none⟩ = some (.bool (rd_T75 (rd_T41 l ↑i).f2.f3 ↑q).f0.f1) := (blk_cell HZ.out 1).trans rfl
           have y2 : v3.cell? ⟨wx.heap.size, 2, none⟩ = some (.int .i64 (rd_T75 (rd_T41 l ↑i).f2.f3 ↑q).f0.f2) := (blk_cell HZ.out 2).trans rfl
           go_wp2_with (go_at_call 28; go_loud (refine (key3 ((rd_T75 (rd_T41 l ↑i).f2.f3 ↑q).f0) (HRX.out).1 (HRX.out).2 w.heap.size w.heap.size (w.heap.size + 1) (w.heap.size + 1 + 1) t1 _ HI.out.txt (Nat.le_refl _) (by omega) (HTB.out.on HI.out.below) HI.out.nn HI.out.ff).mono ?_); rintro e v4 ⟨rfl, hT, hF⟩; refine Hid.out ?_)
           refine Lib.hid ?_
           replace HI := Aside0.mk (HI.out.step hT hF)
           replace HY := Aside0.mk (hF.blk HY.out HYN.out (by decide))
           obtain ⟨t2, ht2⟩ : ∃ b, b = t1 ++ valB ((rd_T75 (rd_T41 l ↑i).f2.f3 ↑q).f0) := ⟨_, rfl⟩
           rw [← ht2] at HI
           have lt2 : t2.length ≤ t1.length + 45 := by rw [ht2, List.length_append]; have := valB_len ((rd_T75 (rd_T41 l ↑i).f2.f3 ↑q).f0) (HRX.out); omega
           have Ht2 := Aside0.mk ht2
           clear ht2 hT hF y0 y1 y2 HZ
           go_wp2
           go_roundw
           case rel => exact ⟨q + 1, t2, by omega, by go_num, ⟨by rw [Ht2.out, Ht1.out, HQ.out, take_T75 _ _ hlq, flat_snoc, List.append_assoc]; rfl⟩, by omega, HI, HY⟩
           case measure => simp [intOf]; omega
          ·
           skip
           have Hb10 := Aside0.mk (show t = b9 ++ (rd_T41 l ↑i).f2.f3.flatMap fieldB by have h := HQ.out; rw [List.take_of_length_le (by omega)] at h; exact h)
           obtain ⟨b10, eb10⟩ : ∃ b, b = t := ⟨_, rfl⟩
           rw [← eb10] at Hb10 HI tl
           have lb10 : b10.length ≤ b9.length + 46 * (rd_T41 l ↑i).f2.f3.length := by omega
           clear HQ eb10 tl
           have HFIN := Aside0.mk (show b10 = keyB (l.take (i + 1)) by
            rw [Hb10.out, Hb9.out, Hb8.out, Hb7.out, Hb6.out, Hb5.out, Hb4.out, Hb3.out, Hb2.out, Hb1.out, HBS.out, take_T41 l i hlt]
            unfold keyB
            rw [List.flatMap_append]
            simp only [List.flatMap_cons, List.flatMap_nil, List.append_nil, keyS, List.append_assoc])
           have hfl : b10.length ≤ 200 * wtT (l.take (i + 1)) := by rw [HW.out, ← HWE.out]; omega
           go_wp2
           go_roundw
           case rel => exact ⟨i + 1, b10, by omega, by go_num, HFIN, hfl, HI⟩
           case measure => simp [intOf]; omega
  ·
   have HFIN := Aside0.mk (show bs = keyB l by have h := HBS.out; rw [List.take_of_length_le (by omega)] at h; exact h)
   obtain ⟨v, hvb, hvo⟩ := HI.out.txt
   have hvc : wo.cell? ⟨w.heap.size, 0, none⟩ = some v := (blk_cell hvb 0).trans rfl
   have HBL := Aside0.mk HI.out.below
   clear HI hvb hbl HBS
   rcases hvo.2 with ⟨rfl, h0⟩ | ⟨g, cap, cur, rfl, -, -, -, -, -, -⟩
   ·
    have hnil : bs = [] := List.eq_nil_of_length_eq_zero h0
    have HNIL := Aside0.mk hnil
    have hcv := conv_nil wo
    clear hnil hvo h0
    go_wp2
    go_ret
    rw [← HFIN.out, HNIL.out]
    exact ⟨rfl, HBL.out⟩
   ·
    have hcv := run_convert_bytes_back (P := Tryd.prog) wo 76 9 5 ⟨g, 0, none⟩ cap bs Tryd.underlying76 Tryd.underlying5 Tryd.underlying9 (fun j hj => hvo.cells (g := g) rfl j _ (by simp [Lib.byteCells, hj]))
    clear hvo
    go_wp2
    go_ret
    rw [← HFIN.out]
    exact ⟨rfl, HBL.out⟩
end Go.Proofs.YtbobgajkboanfaaDoor.C3
