/- The arguments, opened: what a list of groups reads as, and that it is small. -/
import Derived.Test.YtbobgajkboanfaaDoorRows
import Derived.Test.YtbobgajkboanfaaDoorE1
import Derived.Deep.Slices
import Derived.Deep.Strs
import Derived.Lib.SmallJoins
namespace Go.Proofs.YtbobgajkboanfaaDoor.G1
open Go.RowKit Go.ChangeShapes Go.WideShapes Go.ChangeAt Go.Proofs.YtbobgajkboanfaaDoorW.PrintWords Go.Proofs.YtbobgajkboanfaaDoorW.PrintLast Go.Proofs.YtbobgajkboanfaaDoor.PCanonSames
open A1 A2 A3 B0 B1 B2 B4 C1 C2 C3 D1 D2 D3 E1
set_option linter.unusedVariables false
set_option linter.unusedSimpArgs false

theorem bulk_one {H : Type} (d : DataW H) : 1 ≤ Rows.uptoBulk d := by
  cases d with
  | lit l => cases l <;> simp [Rows.uptoBulk]
  | nil => simp [Rows.uptoBulk]
  | ptr d => simp [Rows.uptoBulk]
  | slice elems spare => simp [Rows.uptoBulk]
  | agg parts => simp [Rows.uptoBulk]
  | iface t d => simp [Rows.uptoBulk]
  | map entries => simp [Rows.uptoBulk]
  | held h => simp [Rows.uptoBulk]
def sumL {α : Type} (f : α → Nat) : List α → Nat
  | [] => 0
  | x :: r => f x + sumL f r
section
variable {H : Type} {enc : TypeId × Value → H} {w : World} {base : Nat} {spare : Nat → Bool} {held : Bool}

/-- A value of type t that reads as a datum is one of kind d, with what G says, and no greater than the datum. -/
def Opens {α : Type} (enc : TypeId × Value → H) (w : World) (base : Nat) (spare : Nat → Bool) (held : Bool) (t : TypeId) (d : Kd α) (wt : α → Nat) (G : α → Prop) : Prop :=
  ∀ fuel cs x, DataW.trod enc Tryd.prog w base spare held fuel t cs = some x → ∃ a : α, d.K w a cs ∧ G a ∧ wt a ≤ Rows.uptoBulk x.1
theorem opens_int : Opens enc w base spare held 3 (Kd.int .i64) (fun _ => 1) inI := by
  intro fuel cs x h
  obtain ⟨n, rfl, rfl, hw⟩ := DataW.trod_int Tryd.underlying3 h
  have e1 : IntKind.min .i64 = -9223372036854775808 := by decide
  have e2 : IntKind.max .i64 = 9223372036854775807 := by decide
  simp only [Lit.wf, e1, e2, decide_eq_true_eq, Bool.and_eq_true] at hw
  exact ⟨n, rfl, hw, Nat.le_refl _⟩
theorem opens_bool : Opens enc w base spare held 4 Kd.bool (fun _ => 1) (fun _ => True) := by
  intro fuel cs x h
  obtain ⟨b, rfl, rfl⟩ := DataW.trod_bool Tryd.underlying4 h
  exact ⟨b, rfl, trivial, Nat.le_refl _⟩
theorem exists_list {α : Type} (p : Nat → α → Prop) (n : Nat) (h : ∀ i, i < n → ∃ a, p i a) : ∃ l : List α, l.length = n ∧ ∀ i a, l[i]? = some a → p i a := by
  induction n with
  | zero => exact ⟨[], rfl, fun i a h => by simp at h⟩
  | succ n ih =>
    obtain ⟨l, hl, hp⟩ := ih (fun i hi => h i (by omega))
    obtain ⟨a, ha⟩ := h n (by omega)
    refine ⟨l ++ [a], by rw [List.length_append, hl]; rfl, fun i b hb => ?_⟩
    by_cases hi : i < l.length
    · rw [List.getElem?_append_left hi] at hb
      exact hp i b hb
    · rw [List.getElem?_append_right (by omega)] at hb
      have h0 : i - l.length = 0 := by
        have := (List.getElem?_eq_some_iff.1 hb).1
        simp at this
        omega
      rw [h0] at hb
      simp at hb
      have : i = n := by omega
      rw [this, ← hb]
      exact ha
theorem bulk_range {α : Type} (wt : α → Nat) (l : List α) (D : Nat → DataW H) (k : Nat) (h : ∀ i a, l[i]? = some a → wt a ≤ Rows.uptoBulk (D (k + i))) : sumL wt l ≤ Rows.uptoBulkAll ((List.range l.length).map (fun i => D (k + i))) := by
  induction l generalizing k with
  | nil => simp [sumL]
  | cons a r ih =>
    have h0 := h 0 a rfl
    have h1 := ih (k + 1) (fun i b hb => by have := h (i + 1) b hb; rw [show k + 1 + i = k + (i + 1) by omega]; exact this)
    rw [List.length_cons, List.range_succ_eq_map, List.map_cons, List.map_map]
    simp only [sumL, Rows.uptoBulkAll]
    have e : (fun i => D (k + i)) ∘ Nat.succ = fun i => D (k + 1 + i) := by
      funext i
      show D (k + (i + 1)) = _
      rw [show k + (i + 1) = k + 1 + i by omega]
    rw [e]
    rw [Nat.add_zero] at h0 ⊢
    omega
theorem opens_slice {α : Type} {t e : TypeId} {d : Kd α} {wt : α → Nat} {G : α → Prop} (ht : Tryd.prog.underlying t = some (.slice e)) (hc : Tryd.prog.cellsOf e = d.sz) (ho : Opens enc w base spare held e d wt G) :
    Opens enc w base spare held t (Kd.slice e d) (fun l => sumL wt l + 1) (fun l => ∀ a, a ∈ l → G a) := by
  intro fuel cs x h
  rcases Deep.open_slice ht h with ⟨rfl, rfl⟩ | ⟨a, len, cap, m, n, D, Pl, rfl, hb, hl, hm, hmm, rfl, hx⟩
  · refine ⟨[], ⟨none, 0, rfl, Nat.le_refl _, ⟨rfl, by simp, fun h => absurd h (Nat.lt_irrefl _)⟩⟩, fun a ha => (by cases ha), ?_⟩
    exact Nat.le_refl _
  · have hlm : len ≤ m := by rw [hmm]; split <;> omega
    obtain ⟨l, hll, hp⟩ := exists_list (fun i y => (∃ c, c.length = d.sz ∧ d.K w y c ∧ ∀ j u, c[j]? = some u → w.cell? (a.add (i * d.sz + j)) = some u) ∧ G y ∧ wt y ≤ Rows.uptoBulk (D i)) len (fun i hi => by
      obtain ⟨cs', h1, h2⟩ := hx i (by omega)
      rw [hc] at h1
      obtain ⟨y, hK, hG, hwt⟩ := ho _ _ _ h2
      obtain ⟨_, hlen, hcell⟩ := World.cells?_some h1
      refine ⟨y, ⟨cs', hlen, hK, fun j u hu => ?_⟩, hG, hwt⟩
      have hj := (List.getElem?_eq_some_iff.1 hu).1
      have := hcell j (by omega)
      rw [Deep.add_add] at this
      rw [this, hu])
    have hmax : cap ≤ 9223372036854775807 := Nat.le_trans hm (by decide)
    subst hll
    refine ⟨l, ⟨some a, cap, rfl, hl, ⟨rfl, by omega, fun _ => ⟨a, rfl, fun j y hj => (hp j y hj).1⟩⟩⟩, fun y hy => ?_, ?_⟩
    · obtain ⟨i, hi⟩ := List.mem_iff_getElem?.1 hy
      exact (hp i y hi).2.1
    · have h2 : sumL wt l ≤ Rows.uptoBulkAll ((List.range l.length).map D) := by
        have := bulk_range wt l D 0 (fun i y hy => by rw [Nat.zero_add]; exact (hp i y hy).2.2)
        simpa only [Nat.zero_add] using this
      show sumL wt l + 1 ≤ _
      simp only [Rows.uptoBulk]
      omega
theorem sum_one {α : Type} (l : List α) : sumL (fun _ => 1) l = l.length := by
  induction l with
  | nil => rfl
  | cons a r ih => simp only [sumL, ih, List.length_cons]; omega
theorem opens_mono {α : Type} {t : TypeId} {d : Kd α} {wt wt' : α → Nat} {G G' : α → Prop} (h : Opens enc w base spare held t d wt G) (hw : ∀ a, wt' a ≤ wt a) (hg : ∀ a, G a → G' a) : Opens enc w base spare held t d wt' G' := by
  intro fuel cs x hx
  obtain ⟨a, h1, h2, h3⟩ := h fuel cs x hx
  exact ⟨a, h1, hg a h2, Nat.le_trans (hw a) h3⟩
theorem cells3 : Tryd.prog.cellsOf 3 = 1 := by kernel_rfl
theorem cells4 : Tryd.prog.cellsOf 4 = 1 := by kernel_rfl
theorem cells32 : Tryd.prog.cellsOf 32 = 1 := by kernel_rfl
theorem cells35 : Tryd.prog.cellsOf 35 = 1 := by kernel_rfl
theorem cells36 : Tryd.prog.cellsOf 36 = 1 := by kernel_rfl
theorem cells37 : Tryd.prog.cellsOf 37 = 1 := by kernel_rfl
theorem cells34 : Tryd.prog.cellsOf 34 = 2 := by kernel_rfl
theorem cells39 : Tryd.prog.cellsOf 39 = 4 := by kernel_rfl
theorem cells41 : Tryd.prog.cellsOf 41 = 6 := by kernel_rfl
theorem cells72 : Tryd.prog.cellsOf 72 = 3 := by kernel_rfl
theorem cells75 : Tryd.prog.cellsOf 75 = 4 := by kernel_rfl
theorem list2 {cs : List Value} (h : cs.length = 2) : ∃ a b, cs = [a, b] := by match cs, h with | [a, b], _ => exact ⟨a, b, rfl⟩
theorem list3 {cs : List Value} (h : cs.length = 3) : ∃ a b c, cs = [a, b, c] := by match cs, h with | [a, b, c], _ => exact ⟨a, b, c, rfl⟩
theorem list4 {cs : List Value} (h : cs.length = 4) : ∃ a b c d, cs = [a, b, c, d] := by match cs, h with | [a, b, c, d], _ => exact ⟨a, b, c, d, rfl⟩
theorem list6 {cs : List Value} (h : cs.length = 6) : ∃ a b c d e f, cs = [a, b, c, d, e, f] := by match cs, h with | [a, b, c, d, e, f], _ => exact ⟨a, b, c, d, e, f, rfl⟩
theorem opens72 : Opens enc w base spare held 72 k72 (fun _ => 1) rngV := by
  intro fuel cs x h
  obtain ⟨y0, y1, y2, n, rfl, hl, h0, h1, h2⟩ := Deep.trod_struct3 Tryd.underlying72 h
  rw [cells72] at hl
  obtain ⟨c0, c1, c2, rfl⟩ := list3 hl
  rw [cells3] at h0 h2
  rw [cells4] at h1
  obtain ⟨a0, k0, g0, -⟩ := opens_int _ _ _ h0
  obtain ⟨a1, k1, -, -⟩ := opens_bool _ _ _ h1
  obtain ⟨a2, k2, g2, -⟩ := opens_int _ _ _ h2
  exact ⟨⟨a0, a1, a2⟩, ⟨[c0], [c1, c2], rfl, k0, ⟨[c1], [c2], rfl, k1, k2⟩⟩, ⟨g0, g2⟩, bulk_one _⟩
theorem opens75 : Opens enc w base spare held 75 k75 (fun _ => 1) (fun f => rngV f.f0) := by
  intro fuel cs x h
  obtain ⟨y0, y1, n, rfl, hl, h0, h1⟩ := trod_struct2 Tryd.underlying75 h
  rw [cells75] at hl
  obtain ⟨c0, c1, c2, c3, rfl⟩ := list4 hl
  rw [cells72] at h0
  rw [cells4] at h1
  obtain ⟨a0, k0, g0, -⟩ := opens72 _ _ _ h0
  obtain ⟨a1, k1, -, -⟩ := opens_bool _ _ _ h1
  exact ⟨⟨a0, a1⟩, ⟨[c0, c1, c2], [c3], rfl, k0, k1⟩, g0, bulk_one _⟩
theorem opens36 : Opens enc w base spare held 36 (Kd.slice 72 k72) (fun l => l.length + 1) (fun l => ∀ v, v ∈ l → rngV v) :=
  opens_mono (opens_slice Tryd.underlying36 (by rw [cells72]; rfl) opens72) (fun l => by rw [sum_one]; omega) (fun _ h => h)
theorem opens37 : Opens enc w base spare held 37 (Kd.slice 75 k75) (fun l => l.length + 1) (fun l => ∀ f, f ∈ l → rngV f.f0) :=
  opens_mono (opens_slice Tryd.underlying37 (by rw [cells75]; rfl) opens75) (fun l => by rw [sum_one]; omega) (fun _ h => h)
theorem opens35 : Opens enc w base spare held 35 (Kd.slice 3 (Kd.int .i64)) (fun l => l.length + 1) (fun l => ∀ h, h ∈ l → inI h) :=
  opens_mono (opens_slice Tryd.underlying35 (by rw [cells3]; rfl) opens_int) (fun l => by rw [sum_one]; omega) (fun _ h => h)
theorem opens39 : Opens enc w base spare held 39 k39 (fun c => c.f1.length + c.f2.length + c.f3.length + 4) (fun c => inI c.f0 ∧ (∀ v, v ∈ c.f1 → rngV v) ∧ (∀ v, v ∈ c.f2 → rngV v) ∧ (∀ f, f ∈ c.f3 → rngV f.f0)) := by
  intro fuel cs x h
  obtain ⟨y0, y1, y2, y3, n, rfl, hl, h0, h1, h2, h3⟩ := Joins.trod_struct4 Tryd.underlying39 h
  rw [cells39] at hl
  obtain ⟨c0, c1, c2, c3, rfl⟩ := list4 hl
  rw [cells3] at h0
  rw [cells36] at h1 h2
  rw [cells37] at h3
  obtain ⟨a0, k0, g0, b0⟩ := opens_int _ _ _ h0
  obtain ⟨a1, k1, g1, b1⟩ := opens36 _ _ _ h1
  obtain ⟨a2, k2, g2, b2⟩ := opens36 _ _ _ h2
  obtain ⟨a3, k3, g3, b3⟩ := opens37 _ _ _ h3
  refine ⟨⟨a0, a1, a2, a3⟩, ⟨[c0], [c1, c2, c3], rfl, k0, ⟨[c1], [c2, c3], rfl, k1, ⟨[c2], [c3], rfl, k2, k3⟩⟩⟩, ⟨g0, g1, g2, g3⟩, ?_⟩
  dsimp only at b0 b1 b2 b3
  simp only [Rows.uptoBulk, Rows.uptoBulkAll]
  omega
theorem opens41 : Opens enc w base spare held 41 k41 wtS rngS := by
  intro fuel cs x h
  obtain ⟨y0, y1, y2, n, rfl, hl, h0, h1, h2⟩ := Deep.trod_struct3 Tryd.underlying41 h
  rw [cells41] at hl
  obtain ⟨c0, c1, c2, c3, c4, c5, rfl⟩ := list6 hl
  rw [cells4] at h0
  rw [cells35] at h1
  rw [cells39] at h2
  obtain ⟨a0, k0, g0, b0⟩ := opens_bool _ _ _ h0
  obtain ⟨a1, k1, g1, b1⟩ := opens35 _ _ _ h1
  obtain ⟨a2, k2, g2, b2⟩ := opens39 _ _ _ h2
  refine ⟨⟨a0, a1, a2⟩, ⟨[c0], [c1, c2, c3, c4, c5], rfl, k0, ⟨[c1], [c2, c3, c4, c5], rfl, k1, k2⟩⟩, ⟨g1, g2.1, g2.2.1, g2.2.2.1, g2.2.2.2⟩, ?_⟩
  dsimp only at b0 b1 b2
  simp only [Rows.uptoBulk, Rows.uptoBulkAll]
  unfold wtS
  dsimp only
  omega
theorem sum_wtT (l : List S41) : sumL wtS l = wtT l := by
  induction l with
  | nil => rfl
  | cons a r ih => simp only [sumL, wtT, ih]
theorem opens34 : Opens enc w base spare held 34 k34 wtG1 (fun g => ∀ s, s ∈ g.f0 → rngS s) := by
  intro fuel cs x h
  obtain ⟨y0, y1, n, rfl, hl, h0, h1⟩ := trod_struct2 Tryd.underlying34 h
  rw [cells34] at hl
  obtain ⟨c0, c1, rfl⟩ := list2 hl
  rw [cells32] at h0
  rw [cells4] at h1
  obtain ⟨a0, k0, g0, b0⟩ := opens_slice Tryd.underlying32 (by rw [cells41]; rfl) opens41 _ _ _ h0
  obtain ⟨a1, k1, -, b1⟩ := opens_bool _ _ _ h1
  refine ⟨⟨a0, a1⟩, ⟨[c0], [c1], rfl, k0, k1⟩, g0, ?_⟩
  dsimp only at b0 b1
  rw [sum_wtT] at b0
  simp only [Rows.uptoBulk, Rows.uptoBulkAll]
  unfold wtG1
  dsimp only
  omega
theorem sum_wtG (l : List S34) : sumL wtG1 l = wtG l := by
  induction l with
  | nil => rfl
  | cons a r ih => simp only [sumL, wtG, ih]
/-- An argument of type []RecType. -/
theorem open22 {v : Value} {d : DataW H} {ps : List MemPlace} (h : DataW.Trod enc Tryd.prog w base spare held 22 v d ps) (hs : ∃ A n c, v = .slice A n c) (hb : Rows.uptoBulk d ≤ 1048576) : ∃ (A : Option Addr) (c : Nat) (l : List S34), v = .slice A l.length c ∧ l.length ≤ c ∧ k34.C w A l.length l ∧ Fit l := by
  obtain ⟨A0, n0, c0, rfl⟩ := hs
  obtain ⟨fuel, h⟩ := h
  obtain ⟨l, ⟨A, c, e, hl, hC⟩, hG, hw⟩ := opens_slice Tryd.underlying22 (by rw [cells34]; rfl) opens34 _ _ _ h
  dsimp only at hw
  rw [sum_wtG] at hw
  have e2 : (Value.slice A0 n0 c0) = .slice A l.length c := by
    have : (Value.slice A0 n0 c0).cells.toList = [.slice A0 n0 c0] := rfl
    rw [this] at e
    injection e with e
  exact ⟨A, c, l, e2, hl, hC, ⟨by omega, hG⟩⟩
end
end Go.Proofs.YtbobgajkboanfaaDoor.G1
