/- The reference's Closed, and own, in lists. -/
import Derived.Test.YtbobgajkboanfaaDoorE4
import Derived.Test.YtbobgajkboanfaaDoorPCanonSamesx4
namespace Go.Proofs.YtbobgajkboanfaaDoor.F4
open Go.RowKit Go.Proofs.YtbobgajkboanfaaDoorW.PrintWords Go.Proofs.YtbobgajkboanfaaDoorW.PrintLast Go.Proofs.YtbobgajkboanfaaDoor.PCanonSames
open A1 A2 A3 B0 B1 B2 B3 B4 C1 C2 C3 D1 D2 D3 E1 E3 E4
set_option linter.unusedVariables false
set_option linter.unusedSimpArgs false

/-- The heap types' numbers of value types. -/
def hp (l : List S72) : List Int := l.flatMap (fun v => if v.f0 = 5 then [v.f2] else [])
theorem hp_len (l : List S72) : (hp l).length ≤ l.length := by
  induction l with
  | nil => simp [hp]
  | cons v r ih =>
    unfold hp at ih ⊢
    rw [List.flatMap_cons, List.length_append, List.length_cons]
    split <;> simp only [List.length_cons, List.length_nil] <;> omega
theorem heaps_l0 (k : Nat) (l : List S72) (acc : List Int) (i : Nat) (hn : l.length ≤ 1048576) (hi : i ≤ l.length) (hk : l.length - i < k) (ha : acc.length ≤ i) : ratchetref05_heaps.l0 k l acc (i : Int) = some (acc ++ hp (l.drop i)) := by
  induction k generalizing i acc with
  | zero => omega
  | succ k ih =>
    unfold ratchetref05_heaps.l0
    by_cases hlt : i < l.length
    · rw [if_pos (by omega), if_pos (by omega), drop_T72 l i hlt, w64s i (by omega)]
      by_cases h5 : (rd_T72 l ↑i).f0 = 5
      · rw [if_pos h5, if_pos (by omega), ih _ (i + 1) (by omega) (by omega) (by rw [List.length_append, List.length_singleton]; omega)]
        simp [hp, h5]
      · rw [if_neg h5, ih _ (i + 1) (by omega) (by omega) (by omega)]
        simp [hp, h5]
    · rw [if_neg (by omega), List.drop_eq_nil_of_le (by omega)]
      simp [hp]
theorem heaps_f (k : Nat) (l : List S72) (hn : l.length ≤ 1048576) (hk : l.length < k) : ratchetref05_heaps.f k l = some (hp l) := heaps_l0 k l [] 0 hn (Nat.zero_le _) (by omega) (Nat.le_refl _)
def hpF (l : List S75) : List Int := l.flatMap (fun f => hp [f.f0])
theorem all_l0 (k : Nat) (acc : List Int) (x0 : Bool) (x1 : List Int) (x2 : Int) (x3 x4 : List S72) (l : List S75) (i : Nat) (hn : l.length ≤ 1048576) (hi : i ≤ l.length) (hk : l.length - i + 2 < k) (ha : acc.length ≤ 4194304 + i) :
    ratchetref05_All.l0 k acc (i : Int) x0 x1 x2 x3 x4 l = some (acc ++ hpF (l.drop i)) := by
  induction k generalizing i acc with
  | zero => omega
  | succ k ih =>
    unfold ratchetref05_All.l0
    by_cases hlt : i < l.length
    · have hh := hp_len [(⟨(rd_T75 l ↑i).f0.f0, (rd_T75 l ↑i).f0.f1, (rd_T75 l ↑i).f0.f2⟩ : S72)]
      rw [List.length_singleton] at hh
      rw [if_pos (by omega), if_pos (by omega), drop_T75 l i hlt, w64s i (by omega), heaps_f k _ (by simp) (by simp; omega)]
      dsimp only [Option.bind]
      rw [if_pos (by omega), ih _ (i + 1) (by omega) (by omega) (by rw [List.length_append]; omega)]
      simp [hpF]
    · rw [if_neg (by omega), List.drop_eq_nil_of_le (by omega)]
      simp [hpF]
def allH (s : S41) : List Int := s.f1 ++ hp s.f2.f1 ++ hp s.f2.f2 ++ hpF s.f2.f3
theorem All_f (k : Nat) (s : S41) (hs : small s) (hk : 1048580 < k) : ratchetref05_All.f k s.f0 s.f1 s.f2.f0 s.f2.f1 s.f2.f2 s.f2.f3 = some (allH s) := by
  obtain ⟨m1, m3, m4, m5⟩ := hs
  have h3 := hp_len s.f2.f1
  have h4 := hp_len s.f2.f2
  unfold ratchetref05_All.f
  rw [if_pos (by simp only [List.length_nil]; omega)]
  dsimp only [Option.bind]
  rw [heaps_f k _ m3 (by omega)]
  dsimp only [Option.bind]
  rw [if_pos (by simp only [List.nil_append]; omega)]
  rw [heaps_f k _ m4 (by omega)]
  dsimp only [Option.bind]
  rw [if_pos (by simp only [List.nil_append, List.length_append]; omega)]
  have := all_l0 k (([] : List Int) ++ s.f1 ++ hp s.f2.f1 ++ hp s.f2.f2) s.f0 s.f1 s.f2.f0 s.f2.f1 s.f2.f2 s.f2.f3 0 m5 (Nat.zero_le _) (by omega) (by simp only [List.nil_append, List.length_append]; omega)
  rw [Int.natCast_zero] at this
  rw [this]
  simp [allH]
theorem fine_l1 (k : Nat) (en : Int) (l : List Int) (i : Nat) (hn : l.length ≤ 4194304) (hi : i ≤ l.length) (hk : l.length - i < k) : ratchetref05_fine.l1 k en l (i : Int) = some ((l.drop i).all (okH en)) := by
  induction k generalizing i with
  | zero => omega
  | succ k ih =>
    unfold ratchetref05_fine.l1
    by_cases hlt : i < l.length
    · rw [if_pos (by omega), if_pos (by omega), drop_rd l i hlt, List.all_cons]
      by_cases h1 : rd l ↑i ≥ en
      · rw [if_pos h1]
        have : okH en (rd l ↑i) = false := by unfold okH; simp; omega
        rw [this]; rfl
      · rw [if_neg h1]
        by_cases h2 : rd l ↑i < -12
        · rw [if_pos h2]
          have : okH en (rd l ↑i) = false := by unfold okH; simp; omega
          rw [this]; rfl
        · rw [if_neg h2, w64 (by omega) (by omega), show ((i : Int) + 1) = ((i + 1 : Nat) : Int) by omega, ih (i + 1) (by omega) (by omega)]
          have : okH en (rd l ↑i) = true := by unfold okH; simp; omega
          rw [this]; rfl
    · rw [if_neg (by omega), List.drop_eq_nil_of_le (by omega)]
      rfl
def sup (en h : Int) : Bool := !(decide (h < 0)) && !(decide (h ≥ en))
theorem fine_l0 (k : Nat) (en : Int) (s : S41) (hs : small s) (i : Nat) (hi : i ≤ s.f1.length) (hk : s.f1.length - i + 4194310 < k) : ratchetref05_fine.l0 k en (i : Int) s.f0 s.f1 s.f2.f0 s.f2.f1 s.f2.f2 s.f2.f3 = some ((s.f1.drop i).all (sup en) && (allH s).all (okH en)) := by
  have m1 := hs.1
  induction k generalizing i with
  | zero => omega
  | succ k ih =>
    unfold ratchetref05_fine.l0
    by_cases hlt : i < s.f1.length
    · rw [if_pos (by omega), if_pos (by omega), drop_rd s.f1 i hlt, List.all_cons]
      by_cases h1 : rd s.f1 ↑i < 0
      · rw [if_pos h1]
        have : sup en (rd s.f1 ↑i) = false := by unfold sup; simp [h1]
        rw [this]; rfl
      · rw [if_neg h1]
        by_cases h2 : rd s.f1 ↑i ≥ en
        · rw [if_pos h2]
          have : sup en (rd s.f1 ↑i) = false := by unfold sup; simp; omega
          rw [this]; rfl
        · rw [if_neg h2, w64s i (by omega), ih (i + 1) (by omega) (by omega)]
          have : sup en (rd s.f1 ↑i) = true := by unfold sup; simp; omega
          rw [this]; rfl
    · rw [if_neg (by omega), List.drop_eq_nil_of_le (by omega), All_f k s hs (by omega)]
      dsimp only [Option.bind]
      have hl : (allH s).length ≤ 4194304 := by
        obtain ⟨m1, m3, m4, m5⟩ := hs
        have h3 := hp_len s.f2.f1
        have h4 := hp_len s.f2.f2
        have h5 : (hpF s.f2.f3).length ≤ s.f2.f3.length := by
          unfold hpF
          generalize s.f2.f3 = l
          induction l with
          | nil => simp
          | cons f r ih =>
            have := hp_len [f.f0]
            rw [List.flatMap_cons, List.length_append, List.length_cons]
            rw [List.length_singleton] at this
            omega
        unfold allH
        simp only [List.length_append]
        omega
      have := fine_l1 k en (allH s) 0 hl (Nat.zero_le _) (by omega)
      rw [Int.natCast_zero] at this
      rw [this]
      simp
theorem hp_all (en : Int) (l : List S72) : (hp l).all (okH en) = l.all (okV en) := by
  induction l with
  | nil => rfl
  | cons v r ih =>
    unfold hp at ih ⊢
    rw [List.flatMap_cons, List.all_append, List.all_cons, ih]
    congr 1
    unfold okV
    split <;> simp
theorem hpF_all (en : Int) (l : List S75) : (hpF l).all (okH en) = l.all (fun f => okV en f.f0) := by
  induction l with
  | nil => rfl
  | cons v r ih =>
    unfold hpF at ih ⊢
    rw [List.flatMap_cons, List.all_append, List.all_cons, ih, hp_all]
    simp
theorem sup_all (en : Int) (l : List Int) : (l.all (sup en) && l.all (okH en)) = (l.all posH && l.all (okH en)) := by
  induction l with
  | nil => rfl
  | cons h r ih =>
    simp only [List.all_cons]
    have e : (sup en h && okH en h) = (posH h && okH en h) := by
      unfold sup okH posH
      by_cases h1 : h < 0 <;> by_cases h2 : h ≥ en <;> by_cases h3 : h ≥ -12 <;> simp [h1, h2, h3] <;> omega
    have : ∀ a b c d : Bool, ((a && b) && (c && d)) = ((a && c) && (b && d)) := by decide
    rw [this (sup en h), this (posH h), e, ih]
theorem fine_f (k : Nat) (en : Int) (s : S41) (hs : small s) (hk : 5242890 < k) : ratchetref05_fine.f k s.f0 s.f1 s.f2.f0 s.f2.f1 s.f2.f2 s.f2.f3 en = some (okT en s) := by
  have m1 := hs.1
  have h := fine_l0 k en s hs 0 (Nat.zero_le _) (by omega)
  rw [Int.natCast_zero, List.drop_zero] at h
  unfold ratchetref05_fine.f
  rw [h]
  unfold allH okT okS
  rw [List.all_append, List.all_append, List.all_append, hp_all, hp_all, hpF_all]
  have : ∀ a b c d e f : Bool, (a && b) = (f && b) → (a && (b && c && d && e)) = (f && (b && (c && (d && e)))) := by decide
  rw [this _ _ _ _ _ _ (sup_all en s.f1)]

def outG : Option Int → Int × Int
  | some i => (i, 50)
  | none => (0, 0)
def fuelG : List S34 → Nat
  | [] => 1
  | g :: r => g.f0.length + 3 + fuelG r
theorem fuelG_step (l : List S34) (k : Nat) (h : k < l.length) : fuelG (l.drop k) = (rd_T34 l k).f0.length + 3 + fuelG (l.drop (k + 1)) := by rw [drop_T34 l k h]; rfl
theorem closed_l (k : Nat) (l : List S34) (hs : smallG l) :
    (∀ (i : Nat) (n : Int), i ≤ l.length → 0 ≤ n → n + total (l.drop i) ≤ 1048576 → fuelG (l.drop i) + 5242900 ≤ k → ratchetref05_Closed.l0 k l n (i : Int) = some (outG (badG n (l.drop i)))) ∧
    (∀ (i j : Nat) (n : Int), i < l.length → j ≤ (rd_T34 l i).f0.length → 0 ≤ n → n + total (l.drop i) ≤ 1048576 → (rd_T34 l i).f0.length - j + 2 + fuelG (l.drop (i + 1)) + 5242900 ≤ k →
      ratchetref05_Closed.l1 k l n (i : Int) (n + (rd_T34 l i).f0.length) (j : Int) = some (match badT (n + (rd_T34 l i).f0.length) (n + j) ((rd_T34 l i).f0.drop j) with
        | some m => (m, 50)
        | none => outG (badG (n + (rd_T34 l i).f0.length) (l.drop (i + 1))))) := by
  induction k with
  | zero => exact ⟨fun i n _ _ _ h => by omega, fun i j n _ _ _ _ h => by omega⟩
  | succ k ih =>
    have ll := hs.2.1
    refine ⟨fun i n hi h0 hb hk => ?_, fun i j n hi hj h0 hb hk => ?_⟩
    · rw [ratchetref05_Closed.l0]
      by_cases hlt : i < l.length
      · have hf := fuelG_step l i hlt
        have ht := total_step l i hlt
        rw [if_pos (by omega), if_pos (by omega), w64 (by omega) (by omega)]
        have := ih.2 i 0 n hlt (Nat.zero_le _) h0 hb (by omega)
        rw [Int.natCast_zero, Int.add_zero, List.drop_zero] at this
        rw [this, badG_step n l i hlt]
        cases badT (n + ↑(rd_T34 l ↑i).f0.length) n (rd_T34 l ↑i).f0 <;> rfl
      · rw [if_neg (by omega), List.drop_eq_nil_of_le (by omega)]
        rfl
    · have ht := total_step l i hi
      rw [ratchetref05_Closed.l1, if_pos (by omega), if_pos (by omega)]
      by_cases hlt : j < (rd_T34 l ↑i).f0.length
      · rw [if_pos (by omega), if_pos (by omega), fine_f k _ _ (hs.2.2 _ (mem_T34 l i hi) _ (mem_T41 _ j hlt)) (by omega), badT_step _ _ _ j hlt]
        dsimp only [Option.bind]
        by_cases ho : okT (n + ↑(rd_T34 l ↑i).f0.length) (rd_T41 (rd_T34 l ↑i).f0 ↑j) = true
        · rw [if_pos ho, if_pos ho, w64 (by omega) (by omega), show ((j : Int) + 1) = ((j + 1 : Nat) : Int) by omega, ih.2 i (j + 1) n hi (by omega) h0 hb (by omega)]
          rw [show n + ((j + 1 : Nat) : Int) = n + (j : Int) + 1 by omega]
        · rw [if_neg ho, if_neg ho, w64 (by omega) (by omega)]
      · rw [if_neg (by omega), List.drop_eq_nil_of_le (by omega), w64s i (by omega)]
        have := ih.1 (i + 1) (n + (rd_T34 l ↑i).f0.length) (by omega) (by omega) (by omega) (by omega)
        rw [this]
        rfl
theorem fuelG_le (l : List S34) : fuelG l ≤ total l + 3 * l.length + 1 := by
  induction l with
  | nil => simp [fuelG, total]
  | cons g r ih => simp only [fuelG, total, List.length_cons]; omega
theorem closed_f (k : Nat) (l : List S34) (hs : smallG l) (hk : 9999999 < k) : ratchetref05_Closed.f k l = some (closedR l) := by
  have h1 := fuelG_le l
  have h2 := hs.1
  have h3 := hs.2.1
  have := (closed_l k l hs).1 0 0 (Nat.zero_le _) (Int.le_refl _) (by rw [List.drop_zero]; omega) (by rw [List.drop_zero]; omega)
  rw [Int.natCast_zero, List.drop_zero] at this
  unfold ratchetref05_Closed.f
  rw [this]
  unfold closedR outG
  cases badG 0 l <;> rfl

/-! own -/
theorem own_l (k : Nat) (l : List S34) (hs : smallG l) :
    (∀ (i : Nat) (acc : List S34), i ≤ l.length → acc.length ≤ i → fuelG (l.drop i) ≤ k → ratchetlaw06_own.l0 k l acc (i : Int) = some (acc ++ l.drop i)) ∧
    (∀ (i j : Nat) (acc : List S34) (ts : List S41), i < l.length → j ≤ (rd_T34 l i).f0.length → acc.length ≤ i → ts.length ≤ j → (rd_T34 l i).f0.length - j + 2 + fuelG (l.drop (i + 1)) ≤ k →
      ratchetlaw06_own.l1 k l acc (i : Int) (j : Int) ts (rd_T34 l i).f1 = some (acc ++ (⟨ts ++ (rd_T34 l i).f0.drop j, (rd_T34 l i).f1⟩ : S34) :: l.drop (i + 1))) := by
  induction k with
  | zero =>
    refine ⟨fun i acc _ _ h => ?_, fun i j acc ts _ _ _ _ h => by omega⟩
    have : 1 ≤ fuelG (l.drop i) := by cases l.drop i <;> simp [fuelG]; omega
    omega
  | succ k ih =>
    have ll := hs.2.1
    refine ⟨fun i acc hi ha hk => ?_, fun i j acc ts hi hj ha hts hk => ?_⟩
    · rw [ratchetlaw06_own.l0]
      by_cases hlt : i < l.length
      · have hf := fuelG_step l i hlt
        rw [if_pos (by omega), if_pos (by omega)]
        have := ih.2 i 0 acc [] hlt (Nat.zero_le _) ha (Nat.zero_le _) (by omega)
        rw [Int.natCast_zero, List.drop_zero, List.nil_append] at this
        rw [this, drop_T34 l i hlt]
      · rw [if_neg (by omega), List.drop_eq_nil_of_le (by omega), List.append_nil]
    · rw [ratchetlaw06_own.l1, if_pos (by omega), if_pos (by omega)]
      have hg := mem_T34 l i hi
      have hgl : (rd_T34 l ↑i).f0.length ≤ 1048576 := by
        have h1 := total_step l i hi
        have h2 := hs.1
        have h3 := total_append (l.take i) (l.drop i)
        rw [List.take_append_drop] at h3
        omega
      by_cases hlt : j < (rd_T34 l ↑i).f0.length
      · obtain ⟨m1, m3, m4, m5⟩ := hs.2.2 _ hg _ (mem_T41 _ j hlt)
        rw [if_pos (by omega), if_pos (by omega), if_pos (by simp only [List.length_nil]; omega), if_pos (by simp only [List.length_nil]; omega), if_pos (by simp only [List.length_nil]; omega), if_pos (by simp only [List.length_nil]; omega), if_pos (by omega), w64s j (by omega)]
        rw [ih.2 i (j + 1) acc _ hi (by omega) ha (by rw [List.length_append, List.length_singleton]; omega) (by omega), drop_T41 _ j hlt]
        simp
      · rw [if_neg (by omega), if_pos (by omega), List.drop_eq_nil_of_le (by omega), w64s i (by omega), ih.1 (i + 1) _ (by omega) (by rw [List.length_append, List.length_singleton]; omega) (by omega)]
        simp
theorem own_f (k : Nat) (l : List S34) (hs : smallG l) (hk : 9999999 < k) : ratchetlaw06_own.f k l = some l := by
  have h1 := fuelG_le l
  have h2 := hs.1
  have h3 := hs.2.1
  have := (own_l k l hs).1 0 [] (Nat.zero_le _) (Nat.le_refl _) (by rw [List.drop_zero]; omega)
  rw [Int.natCast_zero, List.drop_zero, List.nil_append] at this
  exact this
end Go.Proofs.YtbobgajkboanfaaDoor.F4
