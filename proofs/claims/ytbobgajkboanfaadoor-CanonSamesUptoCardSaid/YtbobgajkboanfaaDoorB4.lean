/- The walk of types.Closed: the number of the first type that speaks of what it may not, and 50; or 0 and 0. -/
import Derived.Test.YtbobgajkboanfaaDoorB2
namespace Go.Proofs.YtbobgajkboanfaaDoor.B4
open Go.RowKit Go.Proofs.YtbobgajkboanfaaDoorW.PrintWords Go.Proofs.YtbobgajkboanfaaDoorW.PrintLast Go.Proofs.YtbobgajkboanfaaDoor.PCanonSames
open A1 A2 A3 B0 B1 B2
set_option linter.unusedVariables false
set_option linter.unusedSimpArgs false

def posH (h : Int) : Bool := decide (h ≥ 0)
def okT (en : Int) (s : S41) : Bool := s.f1.all posH && okS en s
/-- The number of the first type that is not fine. -/
def badT (en : Int) : Int → List S41 → Option Int
 | _, [] => none
 | n, s :: r => if okT en s then badT en (n + 1) r else some n
def badG : Int → List S34 → Option Int
 | _, [] => none
 | n, g :: r => match badT (n + g.f0.length) n g.f0 with
  | some i => some i
  | none => badG (n + g.f0.length) r
def closedR (l : List S34) : Int × Int := match badG 0 l with
 | some i => (i, 50)
 | none => (0, 0)
/-- How many types. -/
def total : List S34 → Nat
 | [] => 0
 | g :: r => g.f0.length + total r
/-- No list is long. -/
def small (s : S41) : Prop := s.f1.length ≤ 1048576 ∧ s.f2.f1.length ≤ 1048576 ∧ s.f2.f2.length ≤ 1048576 ∧ s.f2.f3.length ≤ 1048576
def smallG (l : List S34) : Prop := total l ≤ 1048576 ∧ l.length ≤ 1048576 ∧ ∀ g, g ∈ l → ∀ s, s ∈ g.f0 → small s

theorem drop_T34 (l : List S34) (k : Nat) (h : k < l.length) : l.drop k = rd_T34 l k :: l.drop (k + 1) := by
 rw [List.drop_eq_getElem_cons h]; unfold rd_T34; rw [Int.toNat_natCast, List.getD_eq_getElem?_getD, List.getElem?_eq_getElem h]; rfl
theorem drop_T41 (l : List S41) (k : Nat) (h : k < l.length) : l.drop k = rd_T41 l k :: l.drop (k + 1) := by
 rw [List.drop_eq_getElem_cons h]; unfold rd_T41; rw [Int.toNat_natCast, List.getD_eq_getElem?_getD, List.getElem?_eq_getElem h]; rfl
theorem mem_T34 (l : List S34) (k : Nat) (h : k < l.length) : rd_T34 l k ∈ l := by
 unfold rd_T34; rw [Int.toNat_natCast, List.getD_eq_getElem?_getD, List.getElem?_eq_getElem h]; exact List.getElem_mem h
theorem mem_T41 (l : List S41) (k : Nat) (h : k < l.length) : rd_T41 l k ∈ l := by
 unfold rd_T41; rw [Int.toNat_natCast, List.getD_eq_getElem?_getD, List.getElem?_eq_getElem h]; exact List.getElem_mem h
theorem badT_step (en n : Int) (l : List S41) (k : Nat) (h : k < l.length) : badT en n (l.drop k) = if okT en (rd_T41 l k) then badT en (n + 1) (l.drop (k + 1)) else some n := by rw [drop_T41 l k h]; rfl
theorem badG_step (n : Int) (l : List S34) (k : Nat) (h : k < l.length) : badG n (l.drop k) = match badT (n + (rd_T34 l k).f0.length) n (rd_T34 l k).f0 with
 | some i => some i
 | none => badG (n + (rd_T34 l k).f0.length) (l.drop (k + 1)) := by rw [drop_T34 l k h]; rfl
theorem total_step (l : List S34) (k : Nat) (h : k < l.length) : total (l.drop k) = (rd_T34 l k).f0.length + total (l.drop (k + 1)) := by rw [drop_T34 l k h]; rfl
theorem closedR_some {l : List S34} {i : Int} (h : badG 0 l = some i) : closedR l = (i, 50) := by unfold closedR; rw [h]
theorem closedR_none {l : List S34} (h : badG 0 l = none) : closedR l = (0, 0) := by unfold closedR; rw [h]

set_option maxHeartbeats 8000000 in
set_option maxRecDepth 100000 in
theorem closed (l : List S34) (A : Option Addr) (c : Nat) (w : World) (hr : k34.C w A l.length l) (hs : smallG l) :
 Calls Tryd.prog 9 #[.slice A l.length c] w fun e w' => e = .returned (.tuple #[.int .i64 (closedR l).1, .int .i64 (closedR l).2]) ∧ Below w.heap.size w w' := by
 have HR := Aside0.mk hr
 have HS := Aside0.mk hs
 clear hr hs
 have hmf : ∀ (fn : Fn) (first cap : Array Value) (w : World), (Instr.makeFunc fn first cap).run Tryd.prog w = .ok (.func fn first cap) w := fun _ _ _ _ => rfl
 go_enter Tryd.func9, Tryd.ntmps9
 go_wp2
 go_loopw [4, 15] (fun v4 v15 wr => ∃ (i : Nat) (n : Int), i ≤ l.length ∧ v15 = .int .i64 i ∧ v4 = .int .i64 n ∧ Aside0 (badG 0 l = badG n (l.drop i)) ∧ 0 ≤ n ∧ n + total (l.drop i) ≤ 1048576 ∧ Aside0 (wr.heap[w.heap.size]? = some (.cells #[.int .i64 n] 3 (0, 0))) ∧ Aside0 (Below w.heap.size w wr)) (fun _ v15 _ => l.length - (intOf v15).toNat)
 case atStart => exact ⟨0, 0, Nat.zero_le _, rfl, rfl, ⟨rfl⟩, Int.le_refl _, by have := HS.out.1; simp; omega, ⟨blk_new w _⟩, ⟨below_alloc (Below.refl _ _) _⟩⟩
 case round =>
  obtain ⟨i, n, hi, rfl, rfl, HB, n0, n1, HE, HW⟩ := hrel
  by_cases hlt : i < l.length
  ·
   have ib : l.length ≤ 1048576 := HS.out.2.1
   have i0 : (0 : Int) ≤ (i : Int) := Int.natCast_nonneg _
   have i1 : (i : Int) < (l.length : Int) := by omega
   obtain ⟨ad, A0, c0, eA, hx0, hx1, hl0, hc0⟩ := at_T34 HR.out (i : Int) i0 i1
   cases eA
   have HC0 := Aside0.mk hc0
   clear hc0 hl0
   replace hx0 := pw_cell_below HW.out hx0
   replace hx1 := pw_cell_below HW.out hx1
   rw [Int.toNat_natCast] at hx0 hx1
   have ht := total_step l i hlt
   have HTT := Aside0.mk ht
   clear ht
   have he : wr.cell? ⟨w.heap.size, 0, none⟩ = some (.int .i64 n) := (blk_cell HE.out 0).trans rfl
   have hf := blk_frozen HE.out 0
   have hl : w.heap.size < wr.heap.size := blk_lt HE.out
   have hn : w.heap.size ≠ wr.heap.size := Nat.ne_of_lt hl
   have b1 : n + ((rd_T34 l i).f0.length : Int) ≤ 1048576 := by have := HTT.out; omega
   have HE2 := Aside0.mk (blk_alloc (blk_put (cs := #[.int .i64 n]) HE.out 0 (.int .i64 (n + ((rd_T34 l i).f0.length : Int))) rfl) (.cells #[.slice A0 (rd_T34 l i).f0.length c0, .bool (rd_T34 l i).f1] 34))
   have HW2 := Aside0.mk (below_alloc (below_set HW.out (Nat.le_refl _) (j := 0) (v := .int .i64 (n + ((rd_T34 l i).f0.length : Int)))) (.cells #[.slice A0 (rd_T34 l i).f0.length c0, .bool (rd_T34 l i).f1] 34))
   clear HE HW
   go_wp2
   clear he hf hl hn hx0 hx1
   obtain ⟨en, hen⟩ : ∃ en : Int, en = n + ((rd_T34 l i).f0.length : Int) := ⟨_, rfl⟩
   rw [← hen] at HE2 HW2 b1 ⊢
   have HEN := Aside0.mk hen
   clear hen
   go_loopw [4, 27] (fun v4 v27 w2 => ∃ (k : Nat) (m : Int), k ≤ (rd_T34 l ↑i).f0.length ∧ v27 = .int .i64 k ∧ v4 = .int .i64 m ∧ Aside0 (badT en n (rd_T34 l ↑i).f0 = badT en m ((rd_T34 l ↑i).f0.drop k)) ∧ 0 ≤ m ∧ Aside0 (m = n + k) ∧ Aside0 (w2.heap[w.heap.size]? = some (.cells #[.int .i64 en] 3 (0, 0))) ∧ Aside0 (Below w.heap.size w w2)) (fun _ v27 _ => (rd_T34 l ↑i).f0.length - (intOf v27).toNat)
   case atStart => exact ⟨0, n, Nat.zero_le _, rfl, rfl, ⟨rfl⟩, n0, ⟨by simp⟩, HE2, HW2⟩
   case round =>
    clear HE2 HW2
    obtain ⟨k, m, hk, rfl, rfl, HBT, m0, HM, HE, HW⟩ := hrel
    obtain ⟨w2, rfl⟩ : ∃ w2 : World, w2 = wr := ⟨_, rfl⟩
    by_cases hlk : k < (rd_T34 l ↑i).f0.length
    ·
     have j0 : (0 : Int) ≤ (k : Int) := Int.natCast_nonneg _
     have j1 : (k : Int) < ((rd_T34 l ↑i).f0.length : Int) := by omega
     have kb : k ≤ 1048576 := by have h2 := HEN.out; omega
     have mb : m + 1 ≤ 1048576 := by have h1 := HM.out; have h2 := HEN.out; omega
     obtain ⟨ad2, A1, k1, A3, k3, A4, k4, A5, k5, eA, hx0, hx1, hx2, hx3, hx4, hx5, hl1, hc1, hl3, hc3, hl4, hc4, hl5, hc5⟩ := at_T41 HC0.out (k : Int) j0 j1
     cases eA
     have HC1 := Aside0.mk hc1
     have HC3 := Aside0.mk hc3
     have HC4 := Aside0.mk hc4
     have HC5 := Aside0.mk hc5
     have HSM := Aside0.mk (HS.out.2.2 _ (mem_T34 l i hlt) _ (mem_T41 _ k hlk))
     clear hc1 hc3 hc4 hc5 hl1 hl3 hl4 hl5
     replace hx0 := pw_cell_below HW.out hx0
     replace hx1 := pw_cell_below HW.out hx1
     replace hx2 := pw_cell_below HW.out hx2
     replace hx3 := pw_cell_below HW.out hx3
     replace hx4 := pw_cell_below HW.out hx4
     replace hx5 := pw_cell_below HW.out hx5
     rw [Int.toNat_natCast] at hx0 hx1 hx2 hx3 hx4 hx5
     go_wp2
     clear hx0 hx1 hx2 hx3 hx4 hx5
     have HBX := Aside0.mk (blk_alloc (blk_new w2 (.cells #[.bool (rd_T41 (rd_T34 l ↑i).f0 ↑k).f0, .slice A1 (rd_T41 (rd_T34 l ↑i).f0 ↑k).f1.length k1, .int .i64 (rd_T41 (rd_T34 l ↑i).f0 ↑k).f2.f0, .slice A3 (rd_T41 (rd_T34 l ↑i).f0 ↑k).f2.f1.length k3, .slice A4 (rd_T41 (rd_T34 l ↑i).f0 ↑k).f2.f2.length k4, .slice A5 (rd_T41 (rd_T34 l ↑i).f0 ↑k).f2.f3.length k5] 41)) (.cells #[.bool true] 4))
     have HOB := Aside0.mk (blk_at (w := w2.alloc (.cells #[.bool (rd_T41 (rd_T34 l ↑i).f0 ↑k).f0, .slice A1 (rd_T41 (rd_T34 l ↑i).f0 ↑k).f1.length k1, .int .i64 (rd_T41 (rd_T34 l ↑i).f0 ↑k).f2.f0, .slice A3 (rd_T41 (rd_T34 l ↑i).f0 ↑k).f2.f1.length k3, .slice A4 (rd_T41 (rd_T34 l ↑i).f0 ↑k).f2.f2.length k4, .slice A5 (rd_T41 (rd_T34 l ↑i).f0 ↑k).f2.f3.length k5] 41)) (n := w2.heap.size + 1) (by simp) (.cells #[.bool true] 4))
     have HE3 := Aside0.mk (blk_alloc (blk_alloc HE.out (.cells #[.bool (rd_T41 (rd_T34 l ↑i).f0 ↑k).f0, .slice A1 (rd_T41 (rd_T34 l ↑i).f0 ↑k).f1.length k1, .int .i64 (rd_T41 (rd_T34 l ↑i).f0 ↑k).f2.f0, .slice A3 (rd_T41 (rd_T34 l ↑i).f0 ↑k).f2.f1.length k3, .slice A4 (rd_T41 (rd_T34 l ↑i).f0 ↑k).f2.f2.length k4, .slice A5 (rd_T41 (rd_T34 l ↑i).f0 ↑k).f2.f3.length k5] 41)) (.cells #[.bool true] 4))
     have HW3 := Aside0.mk (below_alloc (below_alloc HW.out (.cells #[.bool (rd_T41 (rd_T34 l ↑i).f0 ↑k).f0, .slice A1 (rd_T41 (rd_T34 l ↑i).f0 ↑k).f1.length k1, .int .i64 (rd_T41 (rd_T34 l ↑i).f0 ↑k).f2.f0, .slice A3 (rd_T41 (rd_T34 l ↑i).f0 ↑k).f2.f1.length k3, .slice A4 (rd_T41 (rd_T34 l ↑i).f0 ↑k).f2.f2.length k4, .slice A5 (rd_T41 (rd_T34 l ↑i).f0 ↑k).f2.f3.length k5] 41)) (.cells #[.bool true] 4))
     have HLW := Aside0.mk HW.out.size
     clear HE HW
     go_loopw [34] (fun v34 w3 => ∃ (q : Nat) (o : Bool), q ≤ (rd_T41 (rd_T34 l ↑i).f0 ↑k).f1.length ∧ v34 = .int .i64 q ∧ Aside0 (o = ((rd_T41 (rd_T34 l ↑i).f0 ↑k).f1.take q).all posH) ∧ Aside0 (w3.heap[w2.heap.size]? = some (.cells #[.bool (rd_T41 (rd_T34 l ↑i).f0 ↑k).f0, .slice A1 (rd_T41 (rd_T34 l ↑i).f0 ↑k).f1.length k1, .int .i64 (rd_T41 (rd_T34 l ↑i).f0 ↑k).f2.f0, .slice A3 (rd_T41 (rd_T34 l ↑i).f0 ↑k).f2.f1.length k3, .slice A4 (rd_T41 (rd_T34 l ↑i).f0 ↑k).f2.f2.length k4, .slice A5 (rd_T41 (rd_T34 l ↑i).f0 ↑k).f2.f3.length k5] 41)) ∧ Aside0 (w3.heap[w2.heap.size + 1]? = some (.cells #[.bool o] 4 (0, 0))) ∧ Aside0 (w3.heap[w.heap.size]? = some (.cells #[.int .i64 en] 3 (0, 0))) ∧ Aside0 (Below w.heap.size w w3)) (fun v34 _ => (rd_T41 (rd_T34 l ↑i).f0 ↑k).f1.length - (intOf v34).toNat)
     case atStart => exact ⟨0, true, Nat.zero_le _, rfl, ⟨rfl⟩, HBX, HOB, HE3, HW3⟩
     case round =>
      clear HBX HOB HE3 HW3
      obtain ⟨q, o, hq, rfl, HO, HBX, HOB, HE, HW⟩ := hrel
      by_cases hlq : q < (rd_T41 (rd_T34 l ↑i).f0 ↑k).f1.length
      ·
       have q0 : (0 : Int) ≤ (q : Int) := Int.natCast_nonneg _
       have qm : (rd_T41 (rd_T34 l ↑i).f0 ↑k).f1.length ≤ 1048576 := HSM.out.1
       have q1 : (q : Int) < ((rd_T41 (rd_T34 l ↑i).f0 ↑k).f1.length : Int) := by omega
       have ho : wr.cell? ⟨w2.heap.size + 1, 0, none⟩ = some (.bool o) := (blk_cell HOB.out 0).trans rfl
       have hf := blk_frozen HOB.out 0
       have HN := Aside0.mk (show (o && posH (rd (rd_T41 (rd_T34 l ↑i).f0 ↑k).f1 q)) = ((rd_T41 (rd_T34 l ↑i).f0 ↑k).f1.take (q + 1)).all posH by rw [take_rd _ _ hlq, HO.out, List.all_append, List.all_cons, List.all_nil, Bool.and_true])
       have hst : ∀ b : Bool, (o && posH (rd (rd_T41 (rd_T34 l ↑i).f0 ↑k).f1 q)) = b → ∃ (q' : Nat) (o' : Bool), q' ≤ (rd_T41 (rd_T34 l ↑i).f0 ↑k).f1.length ∧ Value.int .i64 ((q : Int) + 1) = .int .i64 q' ∧ Aside0 (o' = ((rd_T41 (rd_T34 l ↑i).f0 ↑k).f1.take q').all posH) ∧ Aside0 ((wr.setCell ⟨w2.heap.size + 1, 0, none⟩ (.bool b)).heap[w2.heap.size]? = some (.cells #[.bool (rd_T41 (rd_T34 l ↑i).f0 ↑k).f0, .slice A1 (rd_T41 (rd_T34 l ↑i).f0 ↑k).f1.length k1, .int .i64 (rd_T41 (rd_T34 l ↑i).f0 ↑k).f2.f0, .slice A3 (rd_T41 (rd_T34 l ↑i).f0 ↑k).f2.f1.length k3, .slice A4 (rd_T41 (rd_T34 l ↑i).f0 ↑k).f2.f2.length k4, .slice A5 (rd_T41 (rd_T34 l ↑i).f0 ↑k).f2.f3.length k5] 41)) ∧ Aside0 ((wr.setCell ⟨w2.heap.size + 1, 0, none⟩ (.bool b)).heap[w2.heap.size + 1]? = some (.cells #[.bool o'] 4 (0, 0))) ∧ Aside0 ((wr.setCell ⟨w2.heap.size + 1, 0, none⟩ (.bool b)).heap[w.heap.size]? = some (.cells #[.int .i64 en] 3 (0, 0))) ∧ Aside0 (Below w.heap.size w (wr.setCell ⟨w2.heap.size + 1, 0, none⟩ (.bool b))) := by
        intro b hb
        refine ⟨q + 1, b, by omega, by go_num, ⟨by rw [← hb]; exact HN.out⟩, ⟨blk_far HBX.out (by show w2.heap.size ≠ w2.heap.size + 1; omega) _⟩, ⟨blk_put (cs := #[.bool o]) HOB.out 0 _ rfl⟩, ⟨blk_far HE.out (by show w.heap.size ≠ w2.heap.size + 1; have := HLW.out; omega) _⟩, ⟨below_set HW.out (by have := HLW.out; omega)⟩⟩
       obtain ⟨ad3, eA, hx⟩ := Kd.at_int HC1.out (q : Int) q0 q1
       cases eA
       replace hx := pw_cell_below HW.out hx
       rw [Int.toNat_natCast] at hx
       have HST := Aside0.mk hst
       clear hst HN HBX HOB HE HW
       cases o
       ·
        go_wp2
        go_roundw
        case rel => exact HST.out false rfl
        case measure => simp [intOf]; omega
       ·
        by_cases hp : rd (rd_T41 (rd_T34 l ↑i).f0 ↑k).f1 ↑q ≥ 0
        ·
         have hp' := Aside0.mk (show posH (rd (rd_T41 (rd_T34 l ↑i).f0 ↑k).f1 ↑q) = true from decide_eq_true hp)
         go_wp2
         go_roundw
         case rel => exact HST.out true (by rw [hp'.out]; rfl)
         case measure => simp [intOf]; omega
        ·
         have hp' := Aside0.mk (show posH (rd (rd_T41 (rd_T34 l ↑i).f0 ↑k).f1 ↑q) = false from decide_eq_false hp)
         go_wp2
         go_roundw
         case rel => exact HST.out false (by rw [hp'.out]; rfl)
         case measure => simp [intOf]; omega
      ·
       have HO2 := Aside0.mk (show o = (rd_T41 (rd_T34 l ↑i).f0 ↑k).f1.all posH by have h := HO.out; rw [List.take_of_length_le (by omega)] at h; exact h)
       clear HO
       have hb0 : wr.cell? ⟨w2.heap.size, 0, none⟩ = some (.bool (rd_T41 (rd_T34 l ↑i).f0 ↑k).f0) := (blk_cell HBX.out 0).trans rfl
       have hb1 : wr.cell? ⟨w2.heap.size, 1, none⟩ = some (.slice A1 (rd_T41 (rd_T34 l ↑i).f0 ↑k).f1.length k1) := (blk_cell HBX.out 1).trans rfl
       have hb2 : wr.cell? ⟨w2.heap.size, 2, none⟩ = some (.int .i64 (rd_T41 (rd_T34 l ↑i).f0 ↑k).f2.f0) := (blk_cell HBX.out 2).trans rfl
       have hb3 : wr.cell? ⟨w2.heap.size, 3, none⟩ = some (.slice A3 (rd_T41 (rd_T34 l ↑i).f0 ↑k).f2.f1.length k3) := (blk_cell HBX.out 3).trans rfl
       have hb4 : wr.cell? ⟨w2.heap.size, 4, none⟩ = some (.slice A4 (rd_T41 (rd_T34 l ↑i).f0 ↑k).f2.f2.length k4) := (blk_cell HBX.out 4).trans rfl
       have hb5 : wr.cell? ⟨w2.heap.size, 5, none⟩ = some (.slice A5 (rd_T41 (rd_T34 l ↑i).f0 ↑k).f2.f3.length k5) := (blk_cell HBX.out 5).trans rfl
       go_wp2_with fail
       refine (turned (rd_T41 (rd_T34 l ↑i).f0 ↑k) A1 A3 A4 A5 k1 k3 k4 k5 en o (w2.heap.size + 1) w.heap.size w wr HW.out (Nat.le_succ_of_le HLW.out) HC1.out HC3.out HC4.out HC5.out HSM.out.1 HSM.out.2.1 HSM.out.2.2.1 HSM.out.2.2.2 HOB.out HE.out).mono ?_
       rintro e w5 ⟨V, rfl, hg, hf⟩
       have HG := Aside0.mk (show (o && okS en (rd_T41 (rd_T34 l ↑i).f0 ↑k)) = okT en (rd_T41 (rd_T34 l ↑i).f0 ↑k) by rw [HO2.out]; rfl)
       rw [HG.out] at hf
       have HE5 := Aside0.mk ((hg.block _ (blk_lt HE.out) (by intro e; injection e with e; have := HLW.out; omega)).trans HE.out)
       have HW5 := Aside0.mk (Below.grown HW.out hg HW.out.size (fun k hk => by injection hk with hk; have := HLW.out; omega))
       clear hg hb0 hb1 hb2 hb3 hb4 hb5
       by_cases hok : okT en (rd_T41 (rd_T34 l ↑i).f0 ↑k) = true
       ·
        rw [hok] at hf
        have hfc : w5.cell? ⟨w2.heap.size + 1, 0, none⟩ = some (.bool true) := (blk_cell hf 0).trans rfl
        have HK := Aside0.mk hok
        clear hf hok
        go_wp2
        go_roundw
        case rel => exact ⟨k + 1, m + 1, by omega, by go_num, rfl, ⟨by have h := HBT.out; rw [badT_step _ _ _ _ hlk, if_pos HK.out] at h; exact h⟩, by omega, ⟨by have := HM.out; omega⟩, HE5, HW5⟩
        case measure => simp [intOf]; omega
       ·
        have hok' : okT en (rd_T41 (rd_T34 l ↑i).f0 ↑k) = false := by simpa using hok
        rw [hok'] at hf
        have hfc : w5.cell? ⟨w2.heap.size + 1, 0, none⟩ = some (.bool false) := (blk_cell hf 0).trans rfl
        have HK := Aside0.mk hok'
        clear hf hok hok'
        go_wp2
        go_ret2
        have hb : badG 0 l = some m := by
         rw [HB.out, badG_step n l i hlt, ← HEN.out, HBT.out, badT_step _ _ _ _ hlk, HK.out]; rfl
        rw [closedR_some hb]
        exact ⟨rfl, HW5.out⟩
    ·
     have HN := Aside0.mk (show badT en n (rd_T34 l ↑i).f0 = none by rw [HBT.out, List.drop_eq_nil_of_le (by omega)]; rfl)
     have HMM := Aside0.mk (show m = en by have h1 := HM.out; have h2 := HEN.out; omega)
     clear HBT
     go_wp2
     go_roundw
     case rel => exact ⟨i + 1, m, by omega, by go_num, rfl, ⟨by rw [HB.out, badG_step n l i hlt, ← HEN.out, HN.out, HMM.out]⟩, m0, by have h1 := HTT.out; have h2 := HEN.out; have h3 := HMM.out; omega, ⟨by rw [HMM.out]; exact HE.out⟩, HW⟩
     case measure => simp [intOf]; omega
  ·
   have HN := Aside0.mk (show badG 0 l = none by rw [HB.out, List.drop_eq_nil_of_le (by omega)]; rfl)
   go_wp2
   go_ret2
   rw [closedR_none HN.out]
   exact ⟨rfl, HW.out⟩
end Go.Proofs.YtbobgajkboanfaaDoor.B4
