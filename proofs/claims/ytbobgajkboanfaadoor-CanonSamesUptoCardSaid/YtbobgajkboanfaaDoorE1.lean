/- types.Count in lists; what canon.One answers. -/
import Derived.Test.YtbobgajkboanfaaDoorD4
import Derived.Test.YtbobgajkboanfaaDoorPCanonSamesx3
namespace Go.Proofs.YtbobgajkboanfaaDoor.E1
open Go.RowKit Go.Proofs.YtbobgajkboanfaaDoorW.PrintWords Go.Proofs.YtbobgajkboanfaaDoorW.PrintLast Go.Proofs.YtbobgajkboanfaaDoor.PCanonSames
open A1 A2 A3 B0 B1 B2 B3 B4 C1 C2 C3 D1 D2 D3 D4
set_option linter.unusedVariables false
set_option linter.unusedSimpArgs false

theorem w64 {x : Int} (h0 : -9223372036854775808 ≤ x) (h1 : x ≤ 9223372036854775807) : wrap64 x = x := by
  unfold wrap64; omega
theorem count_l0 (k : Nat) (l : List S34) (i : Nat) (acc : Int) (hi : i ≤ l.length) (hk : l.length - i < k) (h0 : 0 ≤ acc) (hb : acc + total (l.drop i) ≤ 1048576) (hl : l.length ≤ 1048576) : types_Count.l0 k acc l (l.length : Int) (i : Int) = some (acc + total (l.drop i)) := by
  induction k generalizing i acc with
  | zero => omega
  | succ k ih =>
    unfold types_Count.l0
    by_cases hlt : i < l.length
    · have hs := total_step l i hlt
      rw [if_pos (by omega), if_pos (by omega), if_pos (by omega), w64 (by omega) (by omega), w64 (by omega) (by omega)]
      have := ih (i + 1) (acc + ((rd_T34 l ↑i).f0.length : Int)) (by omega) (by omega) (by omega) (by omega)
      rw [Int.natCast_add] at this
      rw [show ((1 : Nat) : Int) = 1 from rfl] at this
      rw [this]
      congr 1
      omega
    · rw [if_neg (by omega), List.drop_eq_nil_of_le (by omega)]
      simp [total]
theorem count (l : List S34) (hl : l.length ≤ 1048576) (ht : total l ≤ 1048576) : types_Count.f (l.length + 1) l = some (total l : Int) := by
  have := count_l0 (l.length + 1) l 0 0 (Nat.zero_le _) (by omega) (Int.le_refl _) (by rw [List.drop_zero]; omega) hl
  rw [List.drop_zero, Int.zero_add] at this
  exact this

def S1 (a : List S34) : St := addAll ⟨[], 0, []⟩ a
def S2 (a b : List S34) : St := addAll ⟨(S1 a).gs, (S1 a).many, []⟩ b
/-- What canon.One answers. -/
def oneR (a b : List S34) (x y : Int) : Bool × Int :=
  match badG 0 a with
  | some _ => (false, 50)
  | none => match badG 0 b with
    | some _ => (false, 50)
    | none => if x < 0 ∨ (total a : Int) ≤ x ∨ y < 0 ∨ (total b : Int) ≤ y then (false, 1) else (rd (S1 a).ids x == rd (S2 a b).ids y, 0)
theorem oneR_a {a b : List S34} {x y i : Int} (h : badG 0 a = some i) : oneR a b x y = (false, 50) := by unfold oneR; rw [h]
theorem oneR_b {a b : List S34} {x y i : Int} (h : badG 0 a = none) (h2 : badG 0 b = some i) : oneR a b x y = (false, 50) := by unfold oneR; rw [h, h2]
theorem oneR_x {a b : List S34} {x y : Int} (h : badG 0 a = none) (h2 : badG 0 b = none) (h3 : x < 0 ∨ (total a : Int) ≤ x ∨ y < 0 ∨ (total b : Int) ≤ y) : oneR a b x y = (false, 1) := by unfold oneR; rw [h, h2]; exact if_pos h3
theorem oneR_y {a b : List S34} {x y : Int} (h : badG 0 a = none) (h2 : badG 0 b = none) (h3 : ¬ (x < 0 ∨ (total a : Int) ≤ x ∨ y < 0 ∨ (total b : Int) ≤ y)) : oneR a b x y = (rd (S1 a).ids x == rd (S2 a b).ids y, 0) := by unfold oneR; rw [h, h2]; exact if_neg h3
/-- What is asked of a list of groups. -/
structure Fit (l : List S34) : Prop where
  wt : wtG l ≤ 1048576
  rng : rngL l
theorem Fit.smallG {l : List S34} (h : Fit l) : smallG l := by
  have h1 := wtG_total l
  have h2 := wtG_len l
  have h3 := h.wt
  refine ⟨by omega, by omega, fun g hg s hs => ?_⟩
  have e1 := wtG_le hg
  have e2 := wtS_le hs
  unfold wtG1 at e1
  unfold wtS at e2
  unfold small
  omega
theorem Fit.count {l : List S34} (h : Fit l) : types_Count.f (l.length + 1) l = some (total l : Int) := by
  have h1 := wtG_total l
  have h2 := wtG_len l
  have h3 := h.wt
  exact E1.count l (by omega) (by omega)
theorem S1_good {a : List S34} (h : Fit a) : GoodT ⟨(S1 a).gs, (S1 a).many, []⟩ (wtG a) := by
  have := GoodT.zero.all a h.wt
  rw [Nat.zero_add] at this
  exact this.fresh
theorem S1_len (a : List S34) : (S1 a).ids.length = total a := by have := ids_len ⟨[], 0, []⟩ a; simpa [S1] using this
theorem S2_len (a b : List S34) : (S2 a b).ids.length = total b := by have := ids_len ⟨(S1 a).gs, (S1 a).many, []⟩ b; simpa [S2] using this
end Go.Proofs.YtbobgajkboanfaaDoor.E1
