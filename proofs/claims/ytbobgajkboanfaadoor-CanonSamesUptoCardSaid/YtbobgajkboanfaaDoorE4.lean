/- What the printed contracts of the reference's helpers answer. -/
import Derived.Test.YtbobgajkboanfaaDoorE1
import Derived.Test.YtbobgajkboanfaaDoorE3
import Derived.Test.YtbobgajkboanfaaDoorPCanonSamesx6
import Derived.Test.YtbobgajkboanfaaDoorPCanonSamesx9
namespace Go.Proofs.YtbobgajkboanfaaDoor.E4
open Go.RowKit Go.Proofs.YtbobgajkboanfaaDoorW.PrintWords Go.Proofs.YtbobgajkboanfaaDoorW.PrintLast Go.Proofs.YtbobgajkboanfaaDoor.PCanonSames
open A1 A2 A3 B0 B1 B2 B3 B4 C1 C2 C3 D1 D2 D3 E1 E3
set_option linter.unusedVariables false
set_option linter.unusedSimpArgs false

theorem drop_rd (l : List Int) (k : Nat) (h : k < l.length) : l.drop k = rd l k :: l.drop (k + 1) := by
  rw [List.drop_eq_getElem_cons h]; unfold rd; rw [Int.toNat_natCast, List.getD_eq_getElem?_getD, List.getElem?_eq_getElem h]; rfl
theorem drop_T72 (l : List S72) (k : Nat) (h : k < l.length) : l.drop k = rd_T72 l k :: l.drop (k + 1) := by
  rw [List.drop_eq_getElem_cons h]; unfold rd_T72; rw [Int.toNat_natCast, List.getD_eq_getElem?_getD, List.getElem?_eq_getElem h]; rfl
theorem drop_T75 (l : List S75) (k : Nat) (h : k < l.length) : l.drop k = rd_T75 l k :: l.drop (k + 1) := by
  rw [List.drop_eq_getElem_cons h]; unfold rd_T75; rw [Int.toNat_natCast, List.getD_eq_getElem?_getD, List.getElem?_eq_getElem h]; rfl
theorem w64s (i : Nat) (h : i ≤ 1048576) : wrap64 ((i : Int) + 1) = ((i + 1 : Nat) : Int) := by rw [w64 (by omega) (by omega)]; omega
section
variable {ids : List Int} {en : Int}
theorem heap_f {h : Int} (hl : ids.length ≤ 1048576) (he : en ≤ 1048576) (ho : okH en h = true) : ratchetref06_heap.f h ids (ids.length : Int) = some (turnI ids h) := by
  unfold okH at ho
  simp only [Bool.and_eq_true, decide_eq_true_eq] at ho
  unfold ratchetref06_heap.f
  by_cases h0 : h < 0
  · rw [if_pos h0, turnI_neg h0]
  · rw [if_neg h0]
    by_cases h1 : h ≥ (ids.length : Int)
    · rw [if_pos h1, turnI_own h1, w64 (x := h - (ids.length : Int)) (by omega) (by omega), w64 (by omega) (by omega)]
    · rw [if_neg h1, if_pos (by omega), if_pos (by omega), turnI_in (by omega) (by omega)]
theorem val_f {v : S72} (hl : ids.length ≤ 1048576) (he : en ≤ 1048576) (ho : okV en v = true) : ratchetref06_val.f v.f0 v.f1 v.f2 ids (ids.length : Int) = some ((mapV ids v).f0, (mapV ids v).f1, (mapV ids v).f2) := by
  unfold okV at ho
  unfold ratchetref06_val.f mapV
  by_cases h5 : v.f0 = 5
  · rw [if_pos h5] at ho
    rw [if_pos h5, if_pos h5, heap_f hl he ho, h5]
    rfl
  · rw [if_neg h5, if_neg h5]
theorem vals_l0 (k : Nat) (l : List S72) (acc : List S72) (i : Nat) (hl : ids.length ≤ 1048576) (he : en ≤ 1048576) (ho : l.all (okV en) = true) (hn : l.length ≤ 1048576) (hi : i ≤ l.length) (hk : l.length - i < k) (ha : acc.length ≤ i) :
    ratchetref06_vals.l0 k l ids (ids.length : Int) acc (i : Int) = some (acc ++ (l.drop i).map (mapV ids)) := by
  induction k generalizing i acc with
  | zero => omega
  | succ k ih =>
    unfold ratchetref06_vals.l0
    by_cases hlt : i < l.length
    · rw [if_pos (by omega), if_pos (by omega), val_f hl he (all_T72 ho hlt)]
      dsimp only [Option.bind]
      rw [if_pos (by omega), w64s i (by omega), ih _ (i + 1) (by omega) (by omega) (by rw [List.length_append, List.length_singleton]; omega), drop_T72 l i hlt]
      simp
    · rw [if_neg (by omega), List.drop_eq_nil_of_le (by omega)]
      simp
theorem vals_f (k : Nat) (l : List S72) (hl : ids.length ≤ 1048576) (he : en ≤ 1048576) (ho : l.all (okV en) = true) (hn : l.length ≤ 1048576) (hk : 1048576 < k) : ratchetref06_vals.f k l ids (ids.length : Int) = some (l.map (mapV ids)) := by
  have := vals_l0 (ids := ids) k l [] 0 hl he ho hn (Nat.zero_le _) (by omega) (Nat.le_refl _)
  exact this
theorem sub_l1 (k : Nat) (x0 : Bool) (x1 : List Int) (x2 : Int) (x3 x4 : List S72) (l : List S75) (y0 : Bool) (y1 : List Int) (y2 : Int) (y3 y4 : List S72) (acc : List S75) (i : Nat) (hl : ids.length ≤ 1048576) (he : en ≤ 1048576) (ho : l.all (fun f => okV en f.f0) = true) (hn : l.length ≤ 1048576) (hi : i ≤ l.length) (hk : l.length - i < k) (ha : acc.length ≤ i) :
    ratchetref06_sub.l1 k ids (ids.length : Int) (i : Int) x0 x1 x2 x3 x4 l y0 y1 y2 y3 y4 acc = some (y0, y1, y2, y3, y4, acc ++ (l.drop i).map (mapF ids)) := by
  induction k generalizing i acc with
  | zero => omega
  | succ k ih =>
    unfold ratchetref06_sub.l1
    by_cases hlt : i < l.length
    · rw [if_pos (by omega), if_pos (by omega), val_f hl he (all_T75 (p := fun f => okV en f.f0) ho hlt)]
      dsimp only [Option.bind]
      rw [if_pos (by omega), w64s i (by omega), ih _ (i + 1) (by omega) (by omega) (by rw [List.length_append, List.length_singleton]; omega), drop_T75 l i hlt]
      simp [mapF]
    · rw [if_neg (by omega), List.drop_eq_nil_of_le (by omega)]
      simp
theorem sub_l0 (k : Nat) (x0 : Bool) (l : List Int) (x2 : Int) (x3 x4 : List S72) (x5 : List S75) (y0 : Bool) (acc : List Int) (y2 : Int) (i : Nat) (hl : ids.length ≤ 1048576) (he : en ≤ 1048576) (ho : l.all (okH en) = true) (hn : l.length ≤ 1048576)
    (ho3 : x3.all (okV en) = true) (hn3 : x3.length ≤ 1048576) (ho4 : x4.all (okV en) = true) (hn4 : x4.length ≤ 1048576) (ho5 : x5.all (fun f => okV en f.f0) = true) (hn5 : x5.length ≤ 1048576)
    (hi : i ≤ l.length) (hk : l.length - i + 1048577 < k) (ha : acc.length ≤ i) :
    ratchetref06_sub.l0 k ids (ids.length : Int) (i : Int) x0 l x2 x3 x4 x5 y0 acc y2 = some (y0, acc ++ (l.drop i).map (turnI ids), x2, x3.map (mapV ids), x4.map (mapV ids), x5.map (mapF ids)) := by
  induction k generalizing i acc with
  | zero => omega
  | succ k ih =>
    unfold ratchetref06_sub.l0
    by_cases hlt : i < l.length
    · rw [if_pos (by omega), if_pos (by omega), heap_f hl he (all_rd ho hlt)]
      dsimp only [Option.bind]
      rw [if_pos (by omega), w64s i (by omega), ih _ (i + 1) (by omega) (by omega) (by rw [List.length_append, List.length_singleton]; omega), drop_rd l i hlt]
      simp
    · rw [if_neg (by omega), List.drop_eq_nil_of_le (by omega), vals_f k x3 hl he ho3 hn3 (by omega), vals_f k x4 hl he ho4 hn4 (by omega)]
      dsimp only [Option.bind]
      have := sub_l1 k x0 l x2 x3 x4 x5 y0 acc x2 (x3.map (mapV ids)) (x4.map (mapV ids)) [] 0 hl he ho5 hn5 (Nat.zero_le _) (by omega) (Nat.le_refl _)
      rw [Int.natCast_zero] at this
      rw [this]
      simp
theorem sub_f (k : Nat) (s : S41) (hl : ids.length ≤ 1048576) (he : en ≤ 1048576) (ho : okS en s = true) (hs : small s) (hk : 2097153 < k) :
    ratchetref06_sub.f k s.f0 s.f1 s.f2.f0 s.f2.f1 s.f2.f2 s.f2.f3 ids (ids.length : Int) = some ((mapS ids s).f0, (mapS ids s).f1, (mapS ids s).f2.f0, (mapS ids s).f2.f1, (mapS ids s).f2.f2, (mapS ids s).f2.f3) := by
  obtain ⟨o1, o2, o3, o4⟩ := okS_parts ho
  obtain ⟨m1, m2, m3, m4⟩ := hs
  have := sub_l0 k s.f0 s.f1 s.f2.f0 s.f2.f1 s.f2.f2 s.f2.f3 s.f0 [] 0 0 hl he o1 m1 o2 m2 o3 m3 o4 m4 (Nat.zero_le _) (by omega) (Nat.le_refl _)
  exact this
end

/-! sameness -/
theorem ne72 (a b : S72) : ((!(a.f0 == b.f0) || (!(a.f1 == b.f1) || !(a.f2 == b.f2))) = true) ↔ a ≠ b := by
  obtain ⟨a0, a1, a2⟩ := a
  obtain ⟨b0, b1, b2⟩ := b
  simp only [Bool.or_eq_true, Bool.not_eq_true', beq_eq_false_iff_ne, ne_eq, S72.mk.injEq]
  by_cases h0 : a0 = b0 <;> by_cases h1 : a1 = b1 <;> by_cases h2 : a2 = b2 <;> simp [h0, h1, h2]
theorem ne75 (a b : S75) : (((!(a.f0.f0 == b.f0.f0) || (!(a.f0.f1 == b.f0.f1) || !(a.f0.f2 == b.f0.f2))) || !(a.f1 == b.f1)) = true) ↔ a ≠ b := by
  obtain ⟨⟨a0, a1, a2⟩, a3⟩ := a
  obtain ⟨⟨b0, b1, b2⟩, b3⟩ := b
  simp only [Bool.or_eq_true, Bool.not_eq_true', beq_eq_false_iff_ne, ne_eq, S75.mk.injEq, S72.mk.injEq]
  by_cases h0 : a0 = b0 <;> by_cases h1 : a1 = b1 <;> by_cases h2 : a2 = b2 <;> by_cases h3 : a3 = b3 <;> simp [h0, h1, h2, h3]
theorem sames_l0 (k : Nat) (a b : List S72) (i : Nat) (hn : a.length ≤ 1048576) (he : a.length = b.length) (hi : i ≤ a.length) (hk : a.length - i < k) : ∃ r, ratchetref06_sames.l0 k a b (i : Int) = some r ∧ (r = true ↔ a.drop i = b.drop i) := by
  induction k generalizing i with
  | zero => omega
  | succ k ih =>
    unfold ratchetref06_sames.l0
    by_cases hlt : i < a.length
    · rw [if_pos (by omega), if_pos (by omega), if_pos (by omega), drop_T72 a i hlt, drop_T72 b i (by omega)]
      by_cases hq : rd_T72 a ↑i = rd_T72 b ↑i
      · rw [if_neg (by rw [ne72]; exact fun h => h hq), w64s i (by omega)]
        obtain ⟨r, h1, h2⟩ := ih (i + 1) (by omega) (by omega)
        exact ⟨r, h1, by rw [h2, List.cons.injEq]; exact ⟨fun h => ⟨hq, h⟩, fun h => h.2⟩⟩
      · rw [if_pos (by rw [ne72]; exact hq)]
        exact ⟨false, rfl, by simp [hq]⟩
    · rw [if_neg (by omega), List.drop_eq_nil_of_le (by omega), List.drop_eq_nil_of_le (by omega)]
      exact ⟨true, rfl, by simp⟩
theorem sames_f (k : Nat) (a b : List S72) (hn : a.length ≤ 1048576) (hk : 1048576 < k) : ∃ r, ratchetref06_sames.f k a b = some r ∧ (r = true ↔ a = b) := by
  unfold ratchetref06_sames.f
  by_cases he : a.length = b.length
  · rw [if_pos (by omega)]
    exact sames_l0 k a b 0 hn he (Nat.zero_le _) (by omega)
  · rw [if_neg (by omega)]
    exact ⟨false, rfl, by simp; intro h; exact he (by rw [h])⟩
theorem alike_l1 (k : Nat) (a b : S41) (i : Nat) (sa : small a) (he : a.f2.f3.length = b.f2.f3.length) (hi : i ≤ a.f2.f3.length) (hk : a.f2.f3.length - i + 1048577 < k) :
    ∃ r, ratchetref06_alike.l1 k (i : Int) a.f0 a.f1 a.f2.f0 a.f2.f1 a.f2.f2 a.f2.f3 b.f0 b.f1 b.f2.f0 b.f2.f1 b.f2.f2 b.f2.f3 = some r ∧ (r = true ↔ a.f2.f3.drop i = b.f2.f3.drop i ∧ a.f2.f1 = b.f2.f1 ∧ a.f2.f2 = b.f2.f2) := by
  have m5 := sa.2.2.2
  induction k generalizing i with
  | zero => omega
  | succ k ih =>
    unfold ratchetref06_alike.l1
    by_cases hlt : i < a.f2.f3.length
    · rw [if_pos (by omega), if_pos (by omega), if_pos (by omega), drop_T75 a.f2.f3 i hlt, drop_T75 b.f2.f3 i (by omega)]
      by_cases hq : rd_T75 a.f2.f3 ↑i = rd_T75 b.f2.f3 ↑i
      · rw [if_neg (by rw [ne75]; exact fun h => h hq), w64s i (by omega)]
        obtain ⟨r, h1, h2⟩ := ih (i + 1) (by omega) (by omega)
        refine ⟨r, h1, ?_⟩
        rw [h2, List.cons.injEq]
        exact ⟨fun h => ⟨⟨hq, h.1⟩, h.2⟩, fun h => ⟨h.1.2, h.2⟩⟩
      · rw [if_pos (by rw [ne75]; exact hq)]
        exact ⟨false, rfl, by simp [hq]⟩
    · rw [if_neg (by omega), List.drop_eq_nil_of_le (by omega), List.drop_eq_nil_of_le (by omega)]
      obtain ⟨r1, e1, q1⟩ := sames_f k a.f2.f1 b.f2.f1 sa.2.1 (by omega)
      obtain ⟨r2, e2, q2⟩ := sames_f k a.f2.f2 b.f2.f2 sa.2.2.1 (by omega)
      rw [e1, e2]
      dsimp only [Option.bind]
      by_cases h1 : r1 = true
      · rw [if_pos h1]
        exact ⟨r2, rfl, by rw [q2]; exact ⟨fun h => ⟨rfl, q1.1 h1, h⟩, fun h => h.2.2⟩⟩
      · rw [if_neg h1]
        exact ⟨false, rfl, by simp; intro h; exact absurd (q1.2 h) h1⟩
theorem alike_l0 (k : Nat) (a b : S41) (i : Nat) (sa : small a) (he1 : a.f1.length = b.f1.length) (he : a.f2.f3.length = b.f2.f3.length) (hi : i ≤ a.f1.length) (hk : a.f1.length - i + 2097154 < k) :
    ∃ r, ratchetref06_alike.l0 k (i : Int) a.f0 a.f1 a.f2.f0 a.f2.f1 a.f2.f2 a.f2.f3 b.f0 b.f1 b.f2.f0 b.f2.f1 b.f2.f2 b.f2.f3 = some r ∧ (r = true ↔ a.f1.drop i = b.f1.drop i ∧ a.f2.f3 = b.f2.f3 ∧ a.f2.f1 = b.f2.f1 ∧ a.f2.f2 = b.f2.f2) := by
  have m1 := sa.1
  have m5 := sa.2.2.2
  induction k generalizing i with
  | zero => omega
  | succ k ih =>
    unfold ratchetref06_alike.l0
    by_cases hlt : i < a.f1.length
    · rw [if_pos (by omega), if_pos (by omega), if_pos (by omega), drop_rd a.f1 i hlt, drop_rd b.f1 i (by omega)]
      by_cases hq : rd a.f1 ↑i = rd b.f1 ↑i
      · rw [if_pos hq, w64s i (by omega)]
        obtain ⟨r, h1, h2⟩ := ih (i + 1) (by omega) (by omega)
        refine ⟨r, h1, ?_⟩
        rw [h2, List.cons.injEq]
        exact ⟨fun h => ⟨⟨hq, h.1⟩, h.2⟩, fun h => ⟨h.1.2, h.2⟩⟩
      · rw [if_neg hq]
        exact ⟨false, rfl, by simp [hq]⟩
    · rw [if_neg (by omega), List.drop_eq_nil_of_le (by omega), List.drop_eq_nil_of_le (by omega)]
      obtain ⟨r, e1, q1⟩ := alike_l1 k a b 0 sa he (Nat.zero_le _) (by omega)
      exact ⟨r, e1, by rw [q1]; simp⟩
theorem len_eq {a b : Nat} (h : ((a : Int) != (b : Int)) = false) : a = b := by
  have h2 : (a : Int) = (b : Int) := by simpa using h
  omega
theorem alike_j0 (k : Nat) (x : Bool) (a b : S41) (hx : x = false → a.f1.length = b.f1.length ∧ a.f2.f3.length = b.f2.f3.length) (sa : small a) (hk : 3145740 < k) :
    ∃ r, ratchetref06_alike.j0 k x a.f0 a.f1 a.f2.f0 a.f2.f1 a.f2.f2 a.f2.f3 b.f0 b.f1 b.f2.f0 b.f2.f1 b.f2.f2 b.f2.f3 = some r ∧ (r = true ↔ x = false ∧ a.f1 = b.f1 ∧ a.f2.f3 = b.f2.f3 ∧ a.f2.f1 = b.f2.f1 ∧ a.f2.f2 = b.f2.f2) := by
  have m1 := sa.1
  cases k with
  | zero => omega
  | succ k =>
    rw [ratchetref06_alike.j0]
    by_cases hb : x = true
    · rw [if_pos hb]
      exact ⟨false, rfl, by simp [hb]⟩
    · obtain ⟨h1, h2⟩ := hx (by simpa using hb)
      rw [if_neg hb]
      obtain ⟨r, e1, q1⟩ := alike_l0 k a b 0 sa h1 h2 (Nat.zero_le _) (by omega)
      exact ⟨r, e1, by rw [q1]; simp [hb]⟩
theorem alike_f (k : Nat) (a b : S41) (sa : small a) (hk : 3145740 < k) : ∃ r, ratchetref06_alike.f k a.f0 a.f1 a.f2.f0 a.f2.f1 a.f2.f2 a.f2.f3 b.f0 b.f1 b.f2.f0 b.f2.f1 b.f2.f2 b.f2.f3 = some r ∧ (r = true ↔ a = b) := by
  have eqv : a = b ↔ (a.f0 = b.f0 ∧ a.f1 = b.f1 ∧ a.f2.f0 = b.f2.f0 ∧ a.f2.f1 = b.f2.f1 ∧ a.f2.f2 = b.f2.f2 ∧ a.f2.f3 = b.f2.f3) := by
    obtain ⟨a0, a1, ⟨a2, a3, a4, a5⟩⟩ := a
    obtain ⟨b0, b1, ⟨b2, b3, b4, b5⟩⟩ := b
    simp only [S41.mk.injEq, S39.mk.injEq]
  rw [eqv]
  unfold ratchetref06_alike.f
  by_cases h0 : a.f0 = b.f0
  · rw [if_neg (by simp [h0])]
    by_cases h1 : a.f1.length = b.f1.length
    · rw [if_pos (by omega)]
      by_cases h2 : a.f2.f0 = b.f2.f0
      · rw [if_pos h2]
        obtain ⟨r, e, q⟩ := alike_j0 k ((a.f2.f3.length : Int) != (b.f2.f3.length : Int)) a b (fun hx => ⟨h1, len_eq hx⟩) sa hk
        refine ⟨r, e, ?_⟩
        rw [q]
        constructor
        · rintro ⟨-, e1, e2, e3, e4⟩; exact ⟨h0, e1, h2, e3, e4, e2⟩
        · rintro ⟨-, e1, -, e3, e4, e2⟩; exact ⟨by rw [e2]; simp, e1, e2, e3, e4⟩
      · rw [if_neg h2]
        obtain ⟨r, e, q⟩ := alike_j0 k true a b (fun hx => by cases hx) sa hk
        exact ⟨r, e, by rw [q]; simp [h2]⟩
    · rw [if_neg (by omega)]
      obtain ⟨r, e, q⟩ := alike_j0 k true a b (fun hx => by cases hx) sa hk
      refine ⟨r, e, ?_⟩
      rw [q]
      exact ⟨fun h => (by cases h.1), fun h => absurd (congrArg List.length h.2.1) h1⟩
  · rw [if_pos (by simpa using h0)]
    obtain ⟨r, e, q⟩ := alike_j0 k true a b (fun hx => by cases hx) sa hk
    exact ⟨r, e, by rw [q]; simp [h0]⟩
theorem groups_l0 (k : Nat) (a b : List S41) (i : Nat) (hn : a.length ≤ 1048576) (he : a.length = b.length) (sa : ∀ s, s ∈ a → small s) (hi : i ≤ a.length) (hk : a.length - i + 3145741 < k) : ∃ r, ratchetref06_groups.l0 k a b (i : Int) = some r ∧ (r = true ↔ a.drop i = b.drop i) := by
  induction k generalizing i with
  | zero => omega
  | succ k ih =>
    unfold ratchetref06_groups.l0
    by_cases hlt : i < a.length
    · rw [if_pos (by omega), if_pos (by omega), if_pos (by omega), drop_T41 a i hlt, drop_T41 b i (by omega)]
      obtain ⟨r1, e1, q1⟩ := alike_f k (rd_T41 a ↑i) (rd_T41 b ↑i) (sa _ (mem_T41 a i hlt)) (by omega)
      rw [e1]
      dsimp only [Option.bind]
      by_cases hq : r1 = true
      · rw [if_pos hq, w64s i (by omega)]
        obtain ⟨r, h1, h2⟩ := ih (i + 1) (by omega) (by omega)
        refine ⟨r, h1, ?_⟩
        rw [h2, List.cons.injEq]
        exact ⟨fun h => ⟨q1.1 hq, h⟩, fun h => h.2⟩
      · rw [if_neg hq]
        refine ⟨false, rfl, ?_⟩
        simp only [Bool.false_eq_true, List.cons.injEq, false_iff, not_and]
        exact fun h => absurd (q1.2 h) hq
    · rw [if_neg (by omega), List.drop_eq_nil_of_le (by omega), List.drop_eq_nil_of_le (by omega)]
      exact ⟨true, rfl, by simp⟩
theorem groups_f (k : Nat) (a b : List S41) (hn : a.length ≤ 1048576) (sa : ∀ s, s ∈ a → small s) (hk : 4194320 < k) : ratchetref06_groups.f k a b = some (keyB a == keyB b) := by
  have key : ∃ r, ratchetref06_groups.f k a b = some r ∧ (r = true ↔ a = b) := by
    unfold ratchetref06_groups.f
    by_cases he : a.length = b.length
    · rw [if_pos (by omega)]
      exact groups_l0 k a b 0 hn he sa (Nat.zero_le _) (by omega)
    · rw [if_neg (by omega)]
      refine ⟨false, rfl, ?_⟩
      simp only [Bool.false_eq_true, false_iff]
      exact fun h => he (by rw [h])
  obtain ⟨r, e, q⟩ := key
  rw [e]
  congr 1
  by_cases h : a = b
  · rw [q.2 h, h]; simp
  · have h2 : keyB a ≠ keyB b := fun hk => h (keyB_inj hk)
    have h3 : r = false := by cases r with
      | false => rfl
      | true => exact absurd (q.1 rfl) h
    rw [h3]
    simp [h2]
end Go.Proofs.YtbobgajkboanfaaDoor.E4
