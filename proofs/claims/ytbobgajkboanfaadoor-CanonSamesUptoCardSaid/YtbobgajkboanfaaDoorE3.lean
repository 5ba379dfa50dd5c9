/- The text of a group is its own: no two groups share one. -/
import Derived.Test.YtbobgajkboanfaaDoorC3
namespace Go.Proofs.YtbobgajkboanfaaDoor.E3
open Go.RowKit Go.Proofs.YtbobgajkboanfaaDoorW.PrintWords Go.Proofs.YtbobgajkboanfaaDoor.PCanonSames
open A1 A2 A3 B0 B1 B2 B4 C1 C2 C3
set_option linter.unusedVariables false
set_option linter.unusedSimpArgs false

def val10 (l : List UInt8) : Nat := l.foldl (fun a c => a * 10 + (c.toNat - 48)) 0
theorem val10_snoc (l : List UInt8) (c : UInt8) : val10 (l ++ [c]) = val10 l * 10 + (c.toNat - 48) := by unfold val10; rw [List.foldl_append]; rfl
theorem digit_toNat {i : Nat} (h : i < 10) : (UInt8.ofNat (48 + i)).toNat = 48 + i := by rw [UInt8.toNat_ofNat']; omega
theorem dec_snoc {u : Nat} (h : ¬ u < 10) : Lib.decDigits u = Lib.decDigits (u / 10) ++ [UInt8.ofNat (48 + u % 10)] := by rw [Lib.decDigits, dif_neg h]
theorem dec_digit (u : Nat) : ∀ c ∈ Lib.decDigits u, 48 ≤ c.toNat ∧ c.toNat ≤ 57 := by
  induction u using Nat.strongRecOn with
  | _ u ih =>
    intro c hc
    by_cases h : u < 10
    · rw [Lib.decDigits_one h] at hc
      simp only [List.mem_singleton] at hc
      rw [hc, digit_toNat h]
      omega
    · rw [dec_snoc h] at hc
      rcases List.mem_append.1 hc with hc | hc
      · exact ih (u / 10) (by omega) c hc
      · simp only [List.mem_singleton] at hc
        rw [hc, digit_toNat (by omega)]
        omega
theorem dec_val (u : Nat) : val10 (Lib.decDigits u) = u := by
  induction u using Nat.strongRecOn with
  | _ u ih =>
    by_cases h : u < 10
    · rw [Lib.decDigits_one h]
      show 0 * 10 + ((UInt8.ofNat (48 + u)).toNat - 48) = u
      rw [digit_toNat h]
      omega
    · rw [dec_snoc h, val10_snoc, ih (u / 10) (by omega), digit_toNat (by omega)]
      omega
theorem dec_ne (u : Nat) : Lib.decDigits u ≠ [] := by
  by_cases h : u < 10
  · rw [Lib.decDigits_one h]; simp
  · rw [dec_snoc h]; simp
theorem dec_inj {u v : Nat} (h : Lib.decDigits u = Lib.decDigits v) : u = v := by rw [← dec_val u, h, dec_val v]
theorem dec_head {u : Nat} {c : UInt8} {r : List UInt8} (h : Lib.decDigits u = c :: r) : 48 ≤ c.toNat ∧ c.toNat ≤ 57 := dec_digit u c (by rw [h]; simp)
theorem itoa_inj {x y : Int} (h : Lib.itoa x = Lib.itoa y) : x = y := by
  unfold Lib.itoa at h
  split at h <;> split at h
  · have := dec_inj (by injection h); omega
  · have := dec_head h.symm; exact absurd this (by decide)
  · have := dec_head h; exact absurd this (by decide)
  · have := dec_inj h; omega
theorem itoa_mem (x : Int) : ∀ c ∈ Lib.itoa x, c.toNat ≠ 32 ∧ c.toNat ≠ 43 := by
  intro c hc
  unfold Lib.itoa at hc
  split at hc
  · rcases List.mem_cons.1 hc with rfl | hc
    · decide
    · have := dec_digit _ c hc; omega
  · have := dec_digit _ c hc; omega
theorem itoa_ne (x : Int) : Lib.itoa x ≠ [] := by
  unfold Lib.itoa
  split
  · simp
  · exact dec_ne _
theorem split32 (a b r s : List UInt8) (ha : ∀ c ∈ a, c.toNat ≠ 32) (hb : ∀ c ∈ b, c.toNat ≠ 32) (h : a ++ 32 :: r = b ++ 32 :: s) : a = b ∧ r = s := by
  induction a generalizing b with
  | nil =>
    cases b with
    | nil => simpa using h
    | cons c b =>
      injection h with h1 h2
      exact absurd (by rw [← h1]; decide) (hb c (by simp))
  | cons x a ih =>
    cases b with
    | nil =>
      injection h with h1 h2
      exact absurd (by rw [h1]; decide) (ha x (by simp))
    | cons c b =>
      injection h with h1 h2
      obtain ⟨e1, e2⟩ := ih b (fun c hc => ha c (by simp [hc])) (fun c hc => hb c (by simp [hc])) h2
      exact ⟨by rw [h1, e1], e2⟩
theorem num_split {x y : Int} {r s : List UInt8} (h : numB x ++ r = numB y ++ s) : x = y ∧ r = s := by
  unfold numB at h
  rw [List.append_assoc, List.append_assoc] at h
  obtain ⟨e1, e2⟩ := split32 _ _ _ _ (fun c hc => (itoa_mem x c hc).1) (fun c hc => (itoa_mem y c hc).1) h
  exact ⟨itoa_inj e1, e2⟩
theorem num_head (x : Int) (r : List UInt8) : ∃ c t, numB x ++ r = c :: t ∧ c.toNat ≠ 43 := by
  cases hi : Lib.itoa x with
  | nil => exact absurd hi (itoa_ne x)
  | cons c t => exact ⟨c, t ++ [32] ++ r, by unfold numB; rw [hi]; simp, (itoa_mem x c (by rw [hi]; simp)).2⟩
theorem flag_split {b c : Bool} {x y : Int} {r s : List UInt8} (h : flagB b ++ (numB x ++ r) = flagB c ++ (numB y ++ s)) : b = c ∧ x = y ∧ r = s := by
  obtain ⟨cx, tx, ex, hx⟩ := num_head x r
  obtain ⟨cy, ty, ey, hy⟩ := num_head y s
  cases b <;> cases c
  · obtain ⟨e1, e2⟩ := num_split h; exact ⟨rfl, e1, e2⟩
  · rw [ex] at h
    injection h with h1 h2
    exact absurd (by rw [h1]; decide) hx
  · rw [ey] at h
    injection h with h1 h2
    exact absurd (by rw [← h1]; decide) hy
  · injection h with h1 h2
    obtain ⟨e1, e2⟩ := num_split h2; exact ⟨rfl, e1, e2⟩
theorem val_split {v u : S72} {r s : List UInt8} (h : valB v ++ r = valB u ++ s) : v = u ∧ r = s := by
  unfold valB at h
  simp only [List.append_assoc] at h
  obtain ⟨e1, h⟩ := num_split h
  obtain ⟨e2, e3, e4⟩ := flag_split h
  refine ⟨?_, e4⟩
  cases v; cases u
  dsimp only at e1 e2 e3
  rw [e1, e2, e3]
theorem field_split {v u : S75} {r s : List UInt8} (h : fieldB v ++ r = fieldB u ++ s) : v = u ∧ r = s := by
  unfold fieldB valB at h
  simp only [List.append_assoc] at h
  obtain ⟨e1, e2, h⟩ := flag_split h
  obtain ⟨e3, e4, e5⟩ := flag_split h
  refine ⟨?_, e5⟩
  obtain ⟨⟨v0, v1, v2⟩, v3⟩ := v
  obtain ⟨⟨u0, u1, u2⟩, u3⟩ := u
  dsimp only at e1 e2 e3 e4
  rw [e1, e2, e3, e4]
theorem flat_split {α : Type} (f : α → List UInt8) (hf : ∀ x y r s, f x ++ r = f y ++ s → x = y ∧ r = s) (l m : List α) (r s : List UInt8) (hl : l.length = m.length) (h : l.flatMap f ++ r = m.flatMap f ++ s) : l = m ∧ r = s := by
  induction l generalizing m with
  | nil =>
    cases m with
    | nil => exact ⟨rfl, by simpa using h⟩
    | cons y m => simp at hl
  | cons x l ih =>
    cases m with
    | nil => simp at hl
    | cons y m =>
      simp only [List.flatMap_cons, List.append_assoc] at h
      obtain ⟨e1, h⟩ := hf x y _ _ h
      obtain ⟨e2, e3⟩ := ih m (by simpa using hl) h
      exact ⟨by rw [e1, e2], e3⟩
theorem keyS_split {v u : S41} {r s : List UInt8} (h : keyS v ++ r = keyS u ++ s) : v = u ∧ r = s := by
  unfold keyS at h
  simp only [List.append_assoc] at h
  obtain ⟨e0, e1, h⟩ := flag_split h
  obtain ⟨e2, h⟩ := flat_split numB (fun _ _ _ _ => num_split) _ _ _ _ (by omega) h
  obtain ⟨e3, h⟩ := num_split h
  obtain ⟨e4, h⟩ := num_split h
  obtain ⟨e5, h⟩ := flat_split valB (fun _ _ _ _ => val_split) _ _ _ _ (by omega) h
  obtain ⟨e6, h⟩ := num_split h
  obtain ⟨e7, h⟩ := flat_split valB (fun _ _ _ _ => val_split) _ _ _ _ (by omega) h
  obtain ⟨e8, h⟩ := num_split h
  obtain ⟨e9, h⟩ := flat_split fieldB (fun _ _ _ _ => field_split) _ _ _ _ (by omega) h
  refine ⟨?_, h⟩
  obtain ⟨v0, v1, ⟨v2, v3, v4, v5⟩⟩ := v
  obtain ⟨u0, u1, ⟨u2, u3, u4, u5⟩⟩ := u
  dsimp only at e0 e2 e3 e5 e7 e9
  rw [e0, e2, e3, e5, e7, e9]
theorem keyS_ne (v : S41) : keyS v ≠ [] := by
  unfold keyS numB
  simp
theorem keyB_inj {l m : List S41} (h : keyB l = keyB m) : l = m := by
  induction l generalizing m with
  | nil =>
    cases m with
    | nil => rfl
    | cons y m =>
      unfold keyB at h
      rw [List.flatMap_cons] at h
      exact absurd (List.append_eq_nil_iff.1 h.symm).1 (keyS_ne y)
  | cons x l ih =>
    cases m with
    | nil =>
      unfold keyB at h
      rw [List.flatMap_cons] at h
      exact absurd (List.append_eq_nil_iff.1 h).1 (keyS_ne x)
    | cons y m =>
      unfold keyB at h
      rw [List.flatMap_cons, List.flatMap_cons] at h
      obtain ⟨e1, e2⟩ := keyS_split h
      rw [e1, ih e2]
end Go.Proofs.YtbobgajkboanfaaDoor.E3
