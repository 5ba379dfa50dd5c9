/- Words for the walk of canon.mapped. -/
import Derived.Test.YtbobgajkboanfaaDoorB1
namespace Go.Proofs.YtbobgajkboanfaaDoor.B2
open Go.RowKit Go.Proofs.YtbobgajkboanfaaDoorW.PrintWords Go.Proofs.YtbobgajkboanfaaDoorW.PrintLast Go.Proofs.YtbobgajkboanfaaDoor.PCanonSames
open A1 A2 A3 B0 B1
set_option linter.unusedVariables false
set_option linter.unusedSimpArgs false

def mapF (ids : List Int) (f : S75) : S75 := ⟨mapV ids f.f0, f.f1⟩
def mapS (ids : List Int) (s : S41) : S41 := ⟨s.f0, s.f1.map (turnI ids), ⟨s.f2.f0, s.f2.f1.map (mapV ids), s.f2.f2.map (mapV ids), s.f2.f3.map (mapF ids)⟩⟩

theorem okS_parts {en : Int} {s : S41} (h : okS en s = true) : s.f1.all (okH en) = true ∧ s.f2.f1.all (okV en) = true ∧ s.f2.f2.all (okV en) = true ∧ s.f2.f3.all (fun f => okV en f.f0) = true := by
  unfold okS at h
  simp only [Bool.and_eq_true] at h
  exact ⟨h.1, h.2.1, h.2.2.1, h.2.2.2⟩
theorem all_rd {p : Int → Bool} {l : List Int} {k : Nat} (h : l.all p = true) (hk : k < l.length) : p (rd l k) = true := by
  unfold rd; rw [Int.toNat_natCast, List.getD_eq_getElem?_getD, List.getElem?_eq_getElem hk]
  exact List.all_eq_true.1 h _ (List.getElem_mem hk)
theorem all_T72 {p : S72 → Bool} {l : List S72} {k : Nat} (h : l.all p = true) (hk : k < l.length) : p (rd_T72 l k) = true := by
  unfold rd_T72; rw [Int.toNat_natCast, List.getD_eq_getElem?_getD, List.getElem?_eq_getElem hk]
  exact List.all_eq_true.1 h _ (List.getElem_mem hk)
theorem all_T75 {p : S75 → Bool} {l : List S75} {k : Nat} (h : l.all p = true) (hk : k < l.length) : p (rd_T75 l k) = true := by
  unfold rd_T75; rw [Int.toNat_natCast, List.getD_eq_getElem?_getD, List.getElem?_eq_getElem hk]
  exact List.all_eq_true.1 h _ (List.getElem_mem hk)
theorem okH_le {en h : Int} (hen : en ≤ 1048576) (ho : okH en h = true) : -9000000000000000000 ≤ h ∧ h ≤ 9000000000000000000 := by
  unfold okH at ho
  simp only [Bool.and_eq_true, decide_eq_true_eq] at ho
  omega
theorem okV_le {en : Int} {v : S72} (hen : en ≤ 1048576) (ho : okV en v = true) : v.f0 = 5 → -9000000000000000000 ≤ v.f2 ∧ v.f2 ≤ 9000000000000000000 := by
  intro h5
  unfold okV at ho
  rw [if_pos h5] at ho
  exact okH_le hen ho

/-- What stands while canon.mapped runs: its boxes, what it makes. -/
structure MInv (w : World) (c0 c1 c2 c3 c4 c5 : Value) (fv : Value) (v1 v3 v4 v5 : Value) (wr : World) : Prop where
  below : Below w.heap.size w wr
  box : wr.heap[w.heap.size]? = some (.cells #[c0, c1, c2, c3, c4, c5] 41 (0, 0))
  fun_ : wr.heap[w.heap.size + 1]? = some (.cells #[fv] 62 (0, 0))
  out : wr.heap[w.heap.size + 1 + 1 + 1]? = some (.cells #[c0, v1, c2, v3, v4, v5] 41 (0, 0))
  res : wr.heap[w.heap.size + 1 + 1]? = some (.cells #[.bool false, .slice none 0 0, .int .i64 0, .slice none 0 0, .slice none 0 0, .slice none 0 0] 41 (0, 0))
section
variable {w : World} {c0 c1 c2 c3 c4 c5 fv : Value} {v1 v3 v4 v5 : Value} {wr w1 : World}
theorem MInv.drew (h : MInv w c0 c1 c2 c3 c4 c5 fv v1 v3 v4 v5 wr) : MInv w c0 c1 c2 c3 c4 c5 fv v1 v3 v4 v5 wr.drew := ⟨below_drew h.below, h.box, h.fun_, h.out, h.res⟩
theorem MInv.same (h : MInv w c0 c1 c2 c3 c4 c5 fv v1 v3 v4 v5 wr) (hb : Below wr.heap.size wr w1) : MInv w c0 c1 c2 c3 c4 c5 fv v1 v3 v4 v5 w1 :=
  ⟨below_then h.below h.below.size hb, blk_below h.box hb, blk_below h.fun_ hb, blk_below h.out hb, blk_below h.res hb⟩
theorem MInv.appended (h : MInv w c0 c1 c2 c3 c4 c5 fv v1 v3 v4 v5 wr) (hb : Below w.heap.size wr w1) {row : Option Nat} (hg : wr.grownBy w1 row)
    (hne : ∀ g cs t, wr.heap[g]? = some (.cells cs t (0, 0)) → t = 41 ∨ t = 62 → some g ≠ row) : MInv w c0 c1 c2 c3 c4 c5 fv v1 v3 v4 v5 w1 :=
  ⟨h.below.trans hb, blk_grown h.box hg (hne _ _ _ h.box (.inl rfl)), blk_grown h.fun_ hg (hne _ _ _ h.fun_ (.inr rfl)), blk_grown h.out hg (hne _ _ _ h.out (.inl rfl)), blk_grown h.res hg (hne _ _ _ h.res (.inl rfl))⟩
theorem MInv.set1 (h : MInv w c0 c1 c2 c3 c4 c5 fv v1 v3 v4 v5 wr) (u : Value) : MInv w c0 c1 c2 c3 c4 c5 fv u v3 v4 v5 (wr.setCell ⟨w.heap.size + 1 + 1 + 1, 1, none⟩ u) :=
  ⟨h.below.setCell (by show _ ≤ w.heap.size + 1 + 1 + 1; omega) _, blk_far h.box (by show w.heap.size ≠ w.heap.size + 1 + 1 + 1; omega) _, blk_far h.fun_ (by show w.heap.size + 1 ≠ w.heap.size + 1 + 1 + 1; omega) _, blk_set h.out 1 u, blk_far h.res (by show w.heap.size + 1 + 1 ≠ w.heap.size + 1 + 1 + 1; omega) _⟩
theorem MInv.set3 (h : MInv w c0 c1 c2 c3 c4 c5 fv v1 v3 v4 v5 wr) (u : Value) : MInv w c0 c1 c2 c3 c4 c5 fv v1 u v4 v5 (wr.setCell ⟨w.heap.size + 1 + 1 + 1, 3, none⟩ u) :=
  ⟨h.below.setCell (by show _ ≤ w.heap.size + 1 + 1 + 1; omega) _, blk_far h.box (by show w.heap.size ≠ w.heap.size + 1 + 1 + 1; omega) _, blk_far h.fun_ (by show w.heap.size + 1 ≠ w.heap.size + 1 + 1 + 1; omega) _, blk_set h.out 3 u, blk_far h.res (by show w.heap.size + 1 + 1 ≠ w.heap.size + 1 + 1 + 1; omega) _⟩
theorem MInv.set4 (h : MInv w c0 c1 c2 c3 c4 c5 fv v1 v3 v4 v5 wr) (u : Value) : MInv w c0 c1 c2 c3 c4 c5 fv v1 v3 u v5 (wr.setCell ⟨w.heap.size + 1 + 1 + 1, 4, none⟩ u) :=
  ⟨h.below.setCell (by show _ ≤ w.heap.size + 1 + 1 + 1; omega) _, blk_far h.box (by show w.heap.size ≠ w.heap.size + 1 + 1 + 1; omega) _, blk_far h.fun_ (by show w.heap.size + 1 ≠ w.heap.size + 1 + 1 + 1; omega) _, blk_set h.out 4 u, blk_far h.res (by show w.heap.size + 1 + 1 ≠ w.heap.size + 1 + 1 + 1; omega) _⟩
theorem MInv.set5 (h : MInv w c0 c1 c2 c3 c4 c5 fv v1 v3 v4 v5 wr) (u : Value) : MInv w c0 c1 c2 c3 c4 c5 fv v1 v3 v4 u (wr.setCell ⟨w.heap.size + 1 + 1 + 1, 5, none⟩ u) :=
  ⟨h.below.setCell (by show _ ≤ w.heap.size + 1 + 1 + 1; omega) _, blk_far h.box (by show w.heap.size ≠ w.heap.size + 1 + 1 + 1; omega) _, blk_far h.fun_ (by show w.heap.size + 1 ≠ w.heap.size + 1 + 1 + 1; omega) _, blk_set h.out 5 u, blk_far h.res (by show w.heap.size + 1 + 1 ≠ w.heap.size + 1 + 1 + 1; omega) _⟩
end
end Go.Proofs.YtbobgajkboanfaaDoor.B2
