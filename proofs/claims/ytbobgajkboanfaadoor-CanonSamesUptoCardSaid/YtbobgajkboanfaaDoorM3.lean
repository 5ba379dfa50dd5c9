/- Words for the walk of parts.add. -/
import Derived.Test.YtbobgajkboanfaaDoorC3
import Derived.Maps.OwnSet
/- The plain table: canon's groups, ids, and what stands of them. -/
namespace Go.Proofs.YtbobgajkboanfaaDoor.D1
open Go.RowKit Go.Proofs.YtbobgajkboanfaaDoorW.PrintWords Go.Proofs.YtbobgajkboanfaaDoorW.PrintLast Go.Proofs.YtbobgajkboanfaaDoor.PCanonSames
open A1 A2 A3 B0 B1 B2 B4 C1 C2 C3
set_option linter.unusedVariables false
set_option linter.unusedSimpArgs false

structure S68 where
  f0 : Int
  f1 : List S41
def z68 : S68 := ⟨0, []⟩
def k68 : Kd S68 := Kd.iso (Kd.pair (Kd.int .i64) (Kd.slice 41 k41)) (fun x : S68 => (x.f0, x.f1))
theorem k68_open {w : World} {x : S68} {cs : List Value} (h : k68.K w x cs) : ∃ A1 c1, cs = [.int .i64 x.f0, .slice A1 x.f1.length c1] := by
  obtain ⟨_, _, rfl, rfl, ⟨A1, c1, rfl, l1, g1⟩⟩ := h
  exact ⟨A1, c1, rfl⟩
theorem k68_mkM (w : World) (base : Nat) (ok : Nat → Prop) (x : S68) {v1 : Value} (g1 : k41.R 41 w base ok v1 x.f1) : k68.M w base ok x [.int .i64 x.f0, v1] := ⟨[.int .i64 x.f0], [v1], rfl, rfl, ⟨v1, rfl, g1⟩⟩
def rd_T68 (xs : List S68) (i : Int) : S68 := xs.getD i.toNat z68
theorem at_T68 {w : World} {A : Option Addr} {n : Nat} {xs : List S68} (h : Kd.C k68 w A n xs) (i : Int) (h0 : 0 ≤ i) (h1 : i < n) : ∃ ad A1 c1, A = some ad ∧ w.cell? (ad.add (i.toNat * 2)) = some (.int .i64 (rd_T68 xs i).f0) ∧ w.cell? ⟨(ad.add (i.toNat * 2)).block, (ad.add (i.toNat * 2)).off + 1, none⟩ = some (.slice A1 (rd_T68 xs i).f1.length c1) := by
  obtain ⟨ad, c, e, _, hK, hc0⟩ := Kd.C_get h z68 i h0 h1
  have hc : ∀ j u, c[j]? = some u → w.cell? (ad.add (i.toNat * 2 + j)) = some u := hc0
  obtain ⟨A1, c1, rfl⟩ := k68_open hK
  exact ⟨ad, A1, c1, e, hc 0 _ rfl, by rw [← add_field _ _ 1 (by omega)]; exact hc 1 _ rfl⟩
theorem mem_T68 (l : List S68) (k : Nat) (h : k < l.length) : rd_T68 l k ∈ l := by
  unfold rd_T68; rw [Int.toNat_natCast, List.getD_eq_getElem?_getD, List.getElem?_eq_getElem h]; exact List.getElem_mem h
theorem take_T34 (l : List S34) (k : Nat) (h : k < l.length) : l.take (k + 1) = l.take k ++ [rd_T34 l k] := by
  rw [List.take_succ_eq_append_getElem h]; unfold rd_T34; rw [Int.toNat_natCast, List.getD_eq_getElem?_getD, List.getElem?_eq_getElem h]; rfl

/-! the table, in lists -/
structure St where
  gs : List S68
  many : Nat
  ids : List Int
def sameKey (own : List S41) (g : S68) : Bool := keyB g.f1 == keyB own
def findK (own : List S41) (gs : List S68) : Option Nat := gs.findIdx? (sameKey own)
def fam (f : Int) (n : Nat) : List Int := (List.range n).map (fun (k : Nat) => f + (k : Int))
theorem fam_snoc (f : Int) (n : Nat) : fam f (n + 1) = fam f n ++ [f + n] := by unfold fam; rw [List.range_succ, List.map_append]; rfl
theorem fam_len (f : Int) (n : Nat) : (fam f n).length = n := by simp [fam]
def own (ids : List Int) (g : S34) : List S41 := g.f0.map (mapS ids)
def place (o : List S41) (s : St) : Nat := match findK o s.gs with
  | some i => i
  | none => s.gs.length
def gsOf (o : List S41) (s : St) : List S68 := match findK o s.gs with
  | some _ => s.gs
  | none => s.gs ++ [⟨s.many, o⟩]
def manyOf (o : List S41) (s : St) : Nat := match findK o s.gs with
  | some _ => s.many
  | none => s.many + o.length
def stepOw (o : List S41) (s : St) : St := ⟨gsOf o s, manyOf o s, s.ids ++ fam (rd_T68 (gsOf o s) (place o s)).f0 o.length⟩
def stepSt (s : St) (g : S34) : St := stepOw (own s.ids g) s
def addAll (s : St) (l : List S34) : St := l.foldl stepSt s

theorem findK_lt {o : List S41} {gs : List S68} {i : Nat} (h : findK o gs = some i) : i < gs.length := by
  unfold findK at h
  exact (List.findIdx?_eq_some_iff_getElem.1 h).1
theorem place_lt (o : List S41) (s : St) : place o s < (gsOf o s).length := by
  unfold place gsOf
  cases h : findK o s.gs with
  | none => simp
  | some i => exact findK_lt h
theorem addAll_step (s : St) (l : List S34) (k : Nat) (h : k < l.length) : addAll s (l.take (k + 1)) = stepSt (addAll s (l.take k)) (rd_T34 l k) := by
  rw [take_T34 l k h]; unfold addAll; rw [List.foldl_append]; rfl

/-! the parts' bounds -/
def wtG1 (g : S34) : Nat := 1 + wtT g.f0
def wtG : List S34 → Nat
  | [] => 0
  | g :: r => wtG1 g + wtG r
theorem wtG_append (a b : List S34) : wtG (a ++ b) = wtG a + wtG b := by
  induction a with
  | nil => simp [wtG]
  | cons s r ih => simp only [List.cons_append, wtG, ih]; omega
theorem wtG_step (l : List S34) (k : Nat) (h : k < l.length) : wtG (l.take (k + 1)) = wtG (l.take k) + wtG1 (rd_T34 l k) := by rw [take_T34 l k h, wtG_append]; rfl
theorem wtG_take (l : List S34) (k : Nat) : wtG (l.take k) ≤ wtG l := by
  have := wtG_append (l.take k) (l.drop k)
  rw [List.take_append_drop] at this
  omega
theorem wtT_len (l : List S41) : l.length ≤ wtT l := by
  induction l with
  | nil => simp [wtT]
  | cons s r ih => simp only [List.length_cons, wtT, wtS]; omega
theorem wtG_len (l : List S34) : l.length ≤ wtG l := by
  induction l with
  | nil => simp [wtG]
  | cons s r ih => simp only [List.length_cons, wtG, wtG1]; omega
theorem wtG_total (l : List S34) : total l ≤ wtG l := by
  induction l with
  | nil => simp [wtG, total]
  | cons s r ih => have := wtT_len s.f0; simp only [total, wtG, wtG1]; omega
theorem wtS_map (ids : List Int) (s : S41) : wtS (mapS ids s) = wtS s := by simp [wtS, mapS]
theorem wtT_map (ids : List Int) (l : List S41) : wtT (l.map (mapS ids)) = wtT l := by
  induction l with
  | nil => rfl
  | cons s r ih => simp only [List.map_cons, wtT, wtS_map, ih]
theorem own_len (ids : List Int) (g : S34) : (own ids g).length = g.f0.length := by simp [own]
theorem own_wt (ids : List Int) (g : S34) : wtT (own ids g) = wtT g.f0 := wtT_map ids g.f0

/-- What stands of the table's numbers. -/
structure GoodT (s : St) (B : Nat) : Prop where
  many : s.many ≤ B
  gsl : s.gs.length ≤ B
  first : ∀ g, g ∈ s.gs → 0 ≤ g.f0 ∧ g.f0 ≤ B
  ids : ∀ i, i ∈ s.ids → 0 ≤ i ∧ i ≤ B + 1048576
theorem GoodT.step {s : St} {B : Nat} (h : GoodT s B) (g : S34) (hl : g.f0.length ≤ 1048576) : GoodT (stepSt s g) (B + wtG1 g) := by
  have hw : g.f0.length + 1 ≤ wtG1 g := by have := wtT_len g.f0; unfold wtG1; omega
  have hol := own_len s.ids g
  have h1 := h.many
  have h2 := h.gsl
  have hf : ∀ x, x ∈ gsOf (own s.ids g) s → 0 ≤ x.f0 ∧ x.f0 ≤ B := by
    unfold gsOf
    split
    · exact h.first
    · intro x hx
      rcases List.mem_append.1 hx with hx | hx
      · exact h.first x hx
      · simp only [List.mem_singleton] at hx
        subst hx
        dsimp only
        omega
  refine ⟨?_, ?_, ?_, ?_⟩
  · show manyOf _ _ ≤ _
    unfold manyOf
    split <;> omega
  · show (gsOf _ _).length ≤ _
    unfold gsOf
    split
    · omega
    · rw [List.length_append, List.length_singleton]; omega
  · intro x hx
    have := hf x hx
    omega
  · intro i hi
    rcases List.mem_append.1 hi with hi | hi
    · have := h.ids i hi
      omega
    · unfold fam at hi
      obtain ⟨k, hk, rfl⟩ := List.mem_map.1 hi
      have hk := List.mem_range.1 hk
      have := hf _ (mem_T68 _ _ (place_lt (own s.ids g) s))
      omega
theorem GoodT.all {s : St} {B : Nat} (h : GoodT s B) (l : List S34) (hl : wtG l ≤ 1048576) : GoodT (addAll s l) (B + wtG l) := by
  induction l generalizing s B with
  | nil => exact h
  | cons g r ih =>
    have e : wtG (g :: r) = wtG1 g + wtG r := rfl
    have hg : g.f0.length ≤ 1048576 := by have := wtT_len g.f0; rw [e] at hl; unfold wtG1 at hl; omega
    have := ih (h.step g hg) (by omega)
    rw [e, ← Nat.add_assoc]
    exact this
theorem GoodT.take {s : St} {B : Nat} (h : GoodT s B) (l : List S34) (hl : wtG l ≤ 1048576) (k : Nat) : GoodT (addAll s (l.take k)) (B + wtG (l.take k)) := h.all _ (Nat.le_trans (wtG_take l k) hl)
theorem GoodT.fresh (s : St) {B : Nat} (h : GoodT s B) : GoodT ⟨s.gs, s.many, []⟩ B := ⟨h.many, h.gsl, h.first, fun _ hi => by cases hi⟩
theorem GoodT.zero : GoodT ⟨[], 0, []⟩ 0 := ⟨Nat.le_refl _, Nat.le_refl _, fun _ hi => (by cases hi), fun _ hi => by cases hi⟩
theorem ids_len (s : St) (l : List S34) : (addAll s l).ids.length = s.ids.length + total l := by
  induction l generalizing s with
  | nil => simp [addAll, total]
  | cons g r ih =>
    have : (addAll s (g :: r)) = addAll (stepSt s g) r := rfl
    rw [this, ih]
    have : (stepSt s g).ids.length = s.ids.length + g.f0.length := by
      show (s.ids ++ fam _ _).length = _
      rw [List.length_append, fam_len, own_len]
    rw [this]
    show _ = s.ids.length + (g.f0.length + total r)
    omega
theorem total_append (a b : List S34) : total (a ++ b) = total a + total b := by
  induction a with
  | nil => simp [total]
  | cons s r ih => simp only [List.cons_append, total, ih]; omega
theorem total_take_step (l : List S34) (k : Nat) (h : k < l.length) : total (l.take (k + 1)) = total (l.take k) + (rd_T34 l k).f0.length := by rw [take_T34 l k h, total_append]; rfl
theorem total_take (l : List S34) (k : Nat) : total (l.take k) ≤ total l := by
  have := total_append (l.take k) (l.drop k)
  rw [List.take_append_drop] at this
  omega

/-! what is fine -/
def okL : Nat → List S34 → Prop
  | _, [] => True
  | n, g :: r => (∀ s, s ∈ g.f0 → okT ((n + g.f0.length : Nat) : Int) s = true) ∧ okL (n + g.f0.length) r
theorem badT_none {en n : Int} {l : List S41} (h : badT en n l = none) : ∀ s, s ∈ l → okT en s = true := by
  induction l generalizing n with
  | nil => intro s hs; cases hs
  | cons x r ih =>
    unfold badT at h
    split at h
    · intro s hs
      rcases List.mem_cons.1 hs with rfl | hs
      · assumption
      · exact ih h s hs
    · cases h
theorem badG_none {n : Nat} {l : List S34} (h : badG n l = none) : okL n l := by
  induction l generalizing n with
  | nil => trivial
  | cons g r ih =>
    unfold badG at h
    split at h
    · cases h
    · rename_i hb
      refine ⟨fun s hs => ?_, ih (by simpa using h)⟩
      have := badT_none hb s hs
      simpa using this
theorem okL_at {n : Nat} {l : List S34} (h : okL n l) (k : Nat) (hk : k < l.length) : ∀ s, s ∈ (rd_T34 l k).f0 → okT ((n + total (l.take (k + 1)) : Nat) : Int) s = true := by
  induction l generalizing n k with
  | nil => exact absurd hk (Nat.not_lt_zero _)
  | cons g r ih =>
    cases k with
    | zero =>
      have e : total ((g :: r).take (0 + 1)) = g.f0.length := by simp [total]
      have e2 : rd_T34 (g :: r) ((0 : Nat) : Int) = g := rfl
      rw [e, e2]
      exact h.1
    | succ k =>
      have e : total ((g :: r).take (k + 1 + 1)) = g.f0.length + total (r.take (k + 1)) := rfl
      have e2 : rd_T34 (g :: r) ((k + 1 : Nat) : Int) = rd_T34 r (k : Int) := by unfold rd_T34; rw [Int.toNat_natCast, Int.toNat_natCast]; rfl
      rw [e, e2, ← Nat.add_assoc]
      exact ih h.2 k (by simpa using hk)
theorem okT_okS {en : Int} {s : S41} (h : okT en s = true) : okS en s = true := by
  unfold okT at h
  simp only [Bool.and_eq_true] at h
  exact h.2
def rngL (l : List S34) : Prop := ∀ g, g ∈ l → ∀ s, s ∈ g.f0 → rngS s
theorem turnI_rng {ids : List Int} {en h : Int} (hl : ids.length ≤ 1048576) (hi : ∀ i, i ∈ ids → inI i) (he : en ≤ 1048576) (ho : okH en h = true) : inI (turnI ids h) := by
  unfold okH at ho
  simp only [Bool.and_eq_true, decide_eq_true_eq] at ho
  by_cases h0 : h < 0
  · rw [turnI_neg h0]; unfold inI; omega
  · by_cases h1 : h < ids.length
    · rw [turnI_in (by omega) h1]
      unfold rd
      rw [List.getD_eq_getElem?_getD, List.getElem?_eq_getElem (by omega)]
      exact hi _ (List.getElem_mem _)
    · rw [turnI_own (by omega)]; unfold inI; omega
theorem mapV_rng {ids : List Int} {en : Int} {v : S72} (hl : ids.length ≤ 1048576) (hi : ∀ i, i ∈ ids → inI i) (he : en ≤ 1048576) (ho : okV en v = true) (hv : rngV v) : rngV (mapV ids v) := by
  unfold okV at ho
  unfold mapV
  split
  · rename_i h5
    rw [if_pos h5] at ho
    exact ⟨hv.1, turnI_rng hl hi he ho⟩
  · exact ⟨hv.1, by unfold inI; dsimp only; omega⟩
theorem mapS_rng {ids : List Int} {en : Int} {s : S41} (hl : ids.length ≤ 1048576) (hi : ∀ i, i ∈ ids → inI i) (he : en ≤ 1048576) (ho : okS en s = true) (hv : rngS s) : rngS (mapS ids s) := by
  obtain ⟨o1, o2, o3, o4⟩ := okS_parts ho
  obtain ⟨v1, v2, v3, v4, v5⟩ := hv
  refine ⟨?_, v2, ?_, ?_, ?_⟩
  · intro h hh
    obtain ⟨x, hx, rfl⟩ := List.mem_map.1 hh
    exact turnI_rng hl hi he (List.all_eq_true.1 o1 x hx)
  · intro h hh
    obtain ⟨x, hx, rfl⟩ := List.mem_map.1 hh
    exact mapV_rng hl hi he (List.all_eq_true.1 o2 x hx) (v3 x hx)
  · intro h hh
    obtain ⟨x, hx, rfl⟩ := List.mem_map.1 hh
    exact mapV_rng hl hi he (List.all_eq_true.1 o3 x hx) (v4 x hx)
  · intro h hh
    obtain ⟨x, hx, rfl⟩ := List.mem_map.1 hh
    exact mapV_rng hl hi he (List.all_eq_true.1 o4 x hx) (v5 x hx)

/-! the key's length -/
theorem flat_len {α : Type} (f : α → List UInt8) (c : Nat) (l : List α) (h : ∀ x, x ∈ l → (f x).length ≤ c) : (l.flatMap f).length ≤ c * l.length := by
  induction l with
  | nil => simp
  | cons x r ih =>
    have h1 := h x (by simp)
    have h2 := ih (fun y hy => h y (by simp [hy]))
    rw [List.flatMap_cons, List.length_append, List.length_cons, Nat.mul_add, Nat.mul_one]
    omega
theorem keyS_len (s : S41) (h : rngS s) (hz : wtS s ≤ 1048576) : (keyS s).length ≤ 200 * wtS s := by
  obtain ⟨v1, v2, v3, v4, v5⟩ := h
  unfold wtS at hz ⊢
  have a0 := flagB_len s.f0
  have a1 := numB_len s.f1.length (inI_len (by omega)).1 (inI_len (by omega)).2
  have a2 := flat_len numB 22 s.f1 (fun x hx => numB_len x (v1 x hx).1 (v1 x hx).2)
  have a3 := numB_len s.f2.f0 v2.1 v2.2
  have a4 := numB_len s.f2.f1.length (inI_len (by omega)).1 (inI_len (by omega)).2
  have a5 := flat_len valB 45 s.f2.f1 (fun x hx => valB_len x (v3 x hx))
  have a6 := numB_len s.f2.f2.length (inI_len (by omega)).1 (inI_len (by omega)).2
  have a7 := flat_len valB 45 s.f2.f2 (fun x hx => valB_len x (v4 x hx))
  have a8 := numB_len s.f2.f3.length (inI_len (by omega)).1 (inI_len (by omega)).2
  have a9 := flat_len fieldB 46 s.f2.f3 (fun x hx => by have := valB_len x.f0 (v5 x hx); have := flagB_len x.f1; unfold fieldB; rw [List.length_append]; omega)
  unfold keyS
  simp only [List.length_append]
  omega
theorem keyB_len (l : List S41) (h : ∀ s, s ∈ l → rngS s) (hz : wtT l ≤ 1048576) : (keyB l).length ≤ 200 * wtT l := by
  induction l with
  | nil => simp [keyB]
  | cons s r ih =>
    have e : wtT (s :: r) = wtS s + wtT r := rfl
    have h1 := keyS_len s (h s (by simp)) (by omega)
    have h2 := ih (fun y hy => h y (by simp [hy])) (by omega)
    unfold keyB at h2 ⊢
    rw [List.flatMap_cons, List.length_append]
    omega

/-! the map of places -/
def MapIs (D : DataW Unit) (gs : List S68) : Prop := Maps.IsMap D ∧ ∀ o : List S41, match findK o gs with
  | none => Maps.has D (.string (keyB o)) = false
  | some i => Maps.has D (.string (keyB o)) = true ∧ D.atKey (.string (keyB o)) (.lit (.int .i64 0)) = .lit (.int .i64 i)
theorem mapIs_nil : MapIs (.map []) [] := ⟨Maps.isMap_empty, fun o => rfl⟩
theorem MapIs.no {D : DataW Unit} {gs : List S68} (h : MapIs D gs) {o : List S41} (hf : findK o gs = none) : Maps.has D (.string (keyB o)) = false := by have := h.2 o; rw [hf] at this; exact this
theorem MapIs.yes {D : DataW Unit} {gs : List S68} (h : MapIs D gs) {o : List S41} {i : Nat} (hf : findK o gs = some i) : Maps.has D (.string (keyB o)) = true ∧ D.atKey (.string (keyB o)) (.lit (.int .i64 0)) = .lit (.int .i64 i) := by have := h.2 o; rw [hf] at this; exact this
theorem MapIs.put {D : DataW Unit} {gs : List S68} (h : MapIs D gs) {o : List S41} (hf : findK o gs = none) (first : Int) : MapIs (D.put (.string (keyB o)) (.lit (.int .i64 gs.length))) (gs ++ [⟨first, o⟩]) := by
  refine ⟨h.1.put _ _, fun p => ?_⟩
  have hp := h.2 p
  have e : findK p (gs ++ [⟨first, o⟩]) = (findK p gs).or (if keyB o = keyB p then some gs.length else none) := by
    unfold findK
    rw [List.findIdx?_append]
    congr 1
    by_cases hk : keyB o = keyB p
    · simp [List.findIdx?_cons, sameKey, hk]
    · simp [List.findIdx?_cons, sameKey, hk]
  rw [e]
  by_cases hk : keyB o = keyB p
  · have hn : findK p gs = none := by
      rw [← hf]
      unfold findK
      congr 1
      funext g
      unfold sameKey
      rw [hk]
    rw [hn, if_pos hk]
    dsimp only [Option.or]
    rw [← hk]
    exact ⟨Maps.has_put_same h.1 (show WideAt.IsKeyLit (.string (keyB o)) from trivial) _, Maps.atKey_put_same h.1 (show WideAt.IsKeyLit (.string (keyB o)) from trivial) _ _⟩
  · have hne : (Lit.string (keyB p)) ≠ .string (keyB o) := fun e => hk (by injection e with e; exact e.symm)
    rw [if_neg hk, Option.or_none]
    revert hp
    cases findK p gs with
    | none => intro hp; dsimp only at hp ⊢; rw [Maps.has_put_other hne]; exact hp
    | some i => intro hp; dsimp only at hp ⊢; rw [Maps.has_put_other hne, Maps.atKey_put_other hne]; exact hp
end Go.Proofs.YtbobgajkboanfaaDoor.D1
/- The walks of canon.rolled, canon.New; what stands while parts.add runs. -/
namespace Go.Proofs.YtbobgajkboanfaaDoor.D2
open Go.RowKit Go.Proofs.YtbobgajkboanfaaDoorW.PrintWords Go.Proofs.YtbobgajkboanfaaDoorW.PrintLast Go.Proofs.YtbobgajkboanfaaDoor.PCanonSames
open A1 A2 A3 B0 B1 B2 B4 C1 C2 C3 D1
set_option linter.unusedVariables false
set_option linter.unusedSimpArgs false

theorem rolled (A : Option Addr) (n c : Nat) (w : World) : Calls Tryd.prog 17 #[.slice A n c] w fun e w' => e = .returned (.func (.func 23) #[] #[.pointer (some ⟨w.heap.size, 0, none⟩)]) ∧ w.alloc (.cells #[.slice A n c] 35) = w' := by
  have hmf : ∀ (fn : Fn) (first cap : Array Value) (w : World), (Instr.makeFunc fn first cap).run Tryd.prog w = .ok (.func fn first cap) w := fun _ _ _ _ => rfl
  go_enter Tryd.func17, Tryd.ntmps17
  go_wp2
  go_ret
  exact ⟨rfl, rfl⟩

theorem new (w : World) : Calls Tryd.prog 11 #[] w fun e w' => e = .returned (.pointer (some ⟨w.heap.size + 1, 0, none⟩)) ∧ (w.alloc (.map #[] 0)).alloc (.cells #[.slice none 0 0, .map (some w.heap.size), .int .i64 0, .bool true] 54) = w' := by
  have hmm := @run_makeMap Tryd.prog
  go_enter Tryd.func11, Tryd.ntmps11
  go_wp2
  go_ret
  exact ⟨by simp, rfl⟩

/-- Each block of cells stays as it is, but the table's own and those of groups. -/
def Keep68 (gp : Nat) (w w' : World) : Prop := ∀ k cs t, w.heap[k]? = some (.cells cs t (0, 0)) → t ≠ 68 → k ≠ gp → w'.heap[k]? = some (.cells cs t (0, 0))
theorem Keep68.refl (gp : Nat) (w : World) : Keep68 gp w w := fun _ _ _ h _ _ => h
theorem Keep68.trans {gp : Nat} {a b c : World} (h : Keep68 gp a b) (k : Keep68 gp b c) : Keep68 gp a c := fun i cs t hi ht hg => k i cs t (h i cs t hi ht hg) ht hg
theorem Keep68.same {gp : Nat} {a b c : World} (h : Keep68 gp a b) (k : Below b.heap.size b c) : Keep68 gp a c := fun i cs t hi ht hg => blk_below (h i cs t hi ht hg) k
theorem Keep68.row {gp : Nat} {a b c : World} (h : Keep68 gp a b) {n : Nat} (k : Below n b c) (hn : a.heap.size ≤ n) : Keep68 gp a c := fun i cs t hi ht hg => by
  have hl := blk_lt hi
  rw [k.block i (by omega)]
  exact h i cs t hi ht hg

/-- What stands while parts.add runs: w0: where the groups are read; w: where the call began; ut: what the table's cell holds; u: its row. -/
structure Core (w0 w : World) (gp bm : Nat) (ut : Value) (many : Int) (u : Value) (gs : List S68) (v : Value) (ids : List Int) (wr : World) : Prop where
  lg : w0.heap.size ≤ gp
  lb : w0.heap.size ≤ bm
  lw : w0.heap.size ≤ w.heap.size
  below : Below w0.heap.size w0 wr
  size : w.heap.size ≤ wr.heap.size
  keep : Keep68 gp w wr
  tab : wr.heap[gp]? = some (.cells #[ut, .map (some bm), .int .i64 many, .bool true] 54 (0, 0))
  gsR : k68.R 68 wr w0.heap.size (fun k => some k ≠ v.ownBlock) u gs
  idsR : (Kd.int .i64).R 3 wr w.heap.size (fun _ => True) v ids
section
variable {w0 w : World} {gp bm : Nat} {ut : Value} {many : Int} {u : Value} {gs : List S68} {v : Value} {ids : List Int} {wr w1 : World}
theorem Core.same (h : Core w0 w gp bm ut many u gs v ids wr) (hb : Below wr.heap.size wr w1) : Core w0 w gp bm ut many u gs v ids w1 :=
  ⟨h.lg, h.lb, h.lw, below_then h.below h.below.size hb, Nat.le_trans h.size hb.size, h.keep.same hb, blk_below h.tab hb, Kd.R_below h.gsR hb, Kd.R_below h.idsR hb⟩
theorem Core.alloc (h : Core w0 w gp bm ut many u gs v ids wr) (o : Obj) : Core w0 w gp bm ut many u gs v ids (wr.alloc o) := h.same (below_alloc (Below.refl _ _) o)
theorem Core.drew (h : Core w0 w gp bm ut many u gs v ids wr) : Core w0 w gp bm ut many u gs v ids wr.drew := ⟨h.lg, h.lb, h.lw, below_drew h.below, h.size, h.keep, h.tab, Kd.R_drew h.gsR, Kd.R_drew h.idsR⟩
theorem map_apart {wr : World} {bm : Nat} {es : Array MapEntry} {cl : Nat} (hb : wr.heap[bm]? = some (.map es cl)) {k : Nat} {cs : Array Value} {t : TypeId} (hk : wr.heap[k]? = some (.cells cs t (0, 0))) : some k ≠ some bm := by
  intro e
  injection e with e
  subst e
  rw [hb] at hk
  injection hk with hk
  cases hk
theorem R_map {α : Type} {d : Kd α} {e base : Nat} {ok : Nat → Prop} {v : Value} {xs : List α} (h : d.R e wr base ok v xs) (hm : wr.mapTurned w1 bm) : d.R e w1 base ok v xs := by
  have hg := hm.grown
  obtain ⟨es, cl, _, _, hb, _⟩ := hm
  refine Kd.R_mono (Kd.R_grown (Kd.R_bound h) hg (fun k hk => ?_)) (fun _ hk => hk.1)
  obtain ⟨_, _, _, q, _, cells, hc⟩ := hk
  exact map_apart hb hc
theorem blk_map {k : Nat} {cs : Array Value} {t : TypeId} (hk : wr.heap[k]? = some (.cells cs t (0, 0))) (hm : wr.mapTurned w1 bm) : w1.heap[k]? = some (.cells cs t (0, 0)) := by
  have hg := hm.grown
  obtain ⟨es, cl, _, _, hb, _⟩ := hm
  exact blk_grown hk hg (map_apart hb hk)
/-- The map has been written. -/
theorem Core.mapped (h : Core w0 w gp bm ut many u gs v ids wr) (hm : wr.mapTurned w1 bm) : Core w0 w gp bm ut many u gs v ids w1 :=
  ⟨h.lg, h.lb, h.lw, h.below.grown hm.grown h.below.size (fun k e => by injection e with e; have := h.lb; omega), Nat.le_trans h.size hm.grown.size, fun k cs t hk ht hg => blk_map (h.keep k cs t hk ht hg) hm, blk_map h.tab hm, R_map h.gsR hm, R_map h.idsR hm⟩
theorem Core.ids_lt (h : Core w0 w gp bm ut many u gs v ids wr) : ∀ k, wr.heap.size ≤ k → some k ≠ v.ownBlock := by
  intro k hk e
  obtain ⟨_, ho⟩ := Kd.R_own h.idsR
  have := own_lt ho k e.symm
  omega
/-- Behind an append to the groups. -/
theorem Core.gsApp (h : Core w0 w gp bm ut many u gs v ids wr) {u' : Value} {gs' : List S68} (hb : Below w0.heap.size w0 w1) (hg : wr.grownBy w1 u.ownBlock) (ho : k68.R 68 w1 w0.heap.size (fun k => some k ≠ v.ownBlock) u' gs') : Core w0 w gp bm ut many u' gs' v ids w1 := by
  refine ⟨h.lg, h.lb, h.lw, hb, Nat.le_trans h.size hg.size, fun k cs t hk ht hgp => blk_grown (h.keep k cs t hk ht hgp) hg (Kd.R_ne h.gsR (h.keep k cs t hk ht hgp) (Ne.symm ht)), blk_grown h.tab hg (Kd.R_ne h.gsR h.tab (by decide)), ho, Kd.R_grown2 h.idsR rfl hg (fun k hk e => ?_)⟩
  obtain ⟨_, ho1⟩ := Kd.R_own h.gsR
  obtain ⟨_, hc⟩ := own_typed ho1 k hk
  exact Kd.R_ne h.idsR hc (by decide) e
/-- Behind an append to the ids. -/
theorem Core.idsApp (h : Core w0 w gp bm ut many u gs v ids wr) {v' : Value} {ids' : List Int} (hg : wr.grownBy w1 v.ownBlock) (hat : v'.ownBlock = v.ownBlock ∨ ∃ b, v'.ownBlock = some b ∧ wr.heap.size ≤ b) (ho : (Kd.int .i64).R 3 w1 w.heap.size (fun _ => True) v' ids') : Core w0 w gp bm ut many u gs v' ids' w1 := by
  have hbase : ∀ k, v.ownBlock = some k → w.heap.size ≤ k := fun k hk => by obtain ⟨_, ho1⟩ := Kd.R_own h.idsR; exact own_base ho1 k hk
  refine ⟨h.lg, h.lb, h.lw, h.below.grown hg h.below.size (fun k e => Nat.le_trans h.lw (hbase k e)), Nat.le_trans h.size hg.size, fun k cs t hk ht hgp => blk_grown (h.keep k cs t hk ht hgp) hg (fun e => ?_), blk_grown h.tab hg (Kd.R_ne h.idsR h.tab (by decide)), ?_, ho⟩
  · have := hbase k e.symm
    have := blk_lt hk
    omega
  · exact Kd.R_mono (Kd.R_after (ok := fun _ => True) (Kd.R_mono h.gsR (fun _ hk => ⟨trivial, hk⟩)) hg hat) (fun _ hk => hk.2)
theorem Core.setGs (h : Core w0 w gp bm ut many u gs v ids wr) (x : Value) : Core w0 w gp bm x many u gs v ids (wr.setCell ⟨gp, 0, none⟩ x) :=
  ⟨h.lg, h.lb, h.lw, h.below.setCell h.lg _, by simpa [World.setCell] using h.size, fun k cs t hk ht hgp => blk_far (h.keep k cs t hk ht hgp) hgp _, blk_put h.tab 0 _ rfl, Kd.R_set h.gsR h.tab (by decide) 0 x, Kd.R_set h.idsR h.tab (by decide) 0 x⟩
theorem Core.setMany (h : Core w0 w gp bm ut many u gs v ids wr) (m : Int) : Core w0 w gp bm ut m u gs v ids (wr.setCell ⟨gp, 2, none⟩ (.int .i64 m)) :=
  ⟨h.lg, h.lb, h.lw, h.below.setCell h.lg _, by simpa [World.setCell] using h.size, fun k cs t hk ht hgp => blk_far (h.keep k cs t hk ht hgp) hgp _, blk_put h.tab 2 _ rfl, Kd.R_set h.gsR h.tab (by decide) 2 _, Kd.R_set h.idsR h.tab (by decide) 2 _⟩
end
/-- The map of places. -/
def Mp (bm : Nat) (gs : List S68) (wr : World) : Prop := ∃ n D, n ≤ gs.length ∧ wr.ownsMap Tryd.prog 9 (plainElem Tryd.prog 3) bm n D ∧ MapIs D gs
theorem own_mapmove {bm n : Nat} {D : DataW Unit} {wr w1 : World} (h : wr.ownsMap Tryd.prog 9 (plainElem Tryd.prog 3) bm n D) (hm : w1.heap[bm]? = wr.heap[bm]?) : w1.ownsMap Tryd.prog 9 (plainElem Tryd.prog 3) bm n D := by
  obtain ⟨es, cl, hb, r⟩ := h
  exact ⟨es, cl, hm.trans hb, r⟩
theorem Mp.move {bm : Nat} {gs : List S68} {wr w1 : World} (h : Mp bm gs wr) (hm : w1.heap[bm]? = wr.heap[bm]?) : Mp bm gs w1 := by
  obtain ⟨n, D, hn, ho, hd⟩ := h
  exact ⟨n, D, hn, own_mapmove ho hm, hd⟩
theorem Mp.lt {bm : Nat} {gs : List S68} {wr : World} (h : Mp bm gs wr) : bm < wr.heap.size := by
  obtain ⟨n, D, hn, ho, hd⟩ := h
  exact ho.lt
theorem Mp.same {bm : Nat} {gs : List S68} {wr w1 : World} (h : Mp bm gs wr) (hb : Below wr.heap.size wr w1) : Mp bm gs w1 := h.move (hb.block bm h.lt)
theorem Mp.alloc {bm : Nat} {gs : List S68} {wr : World} (h : Mp bm gs wr) (o : Obj) : Mp bm gs (wr.alloc o) := h.same (below_alloc (Below.refl _ _) o)
theorem Mp.drew {bm : Nat} {gs : List S68} {wr : World} (h : Mp bm gs wr) : Mp bm gs wr.drew := h
theorem Mp.far {bm : Nat} {gs : List S68} {wr : World} (h : Mp bm gs wr) {k : Nat} {cs : Array Value} {t : TypeId} (hk : wr.heap[k]? = some (.cells cs t (0, 0))) (i : Nat) (x : Value) : Mp bm gs (wr.setCell ⟨k, i, none⟩ x) := by
  refine h.move (Below.heap_setCell wr ⟨k, i, none⟩ x bm ?_)
  obtain ⟨n, D, hn, ⟨es, cl, hb, _⟩, hd⟩ := h
  exact fun e => map_apart hb hk (by rw [e])
/-- Behind an append to a row. -/
theorem Mp.grown {bm : Nat} {gs : List S68} {wr w1 : World} (h : Mp bm gs wr) {α : Type} {d : Kd α} {e base : Nat} {ok : Nat → Prop} {u : Value} {xs : List α} (hr : d.R e wr base ok u xs) (hg : wr.grownBy w1 u.ownBlock) : Mp bm gs w1 := by
  refine h.move (hg.block bm h.lt (fun e => ?_))
  obtain ⟨n, D, hn, ⟨es, cl, hb, _⟩, hd⟩ := h
  obtain ⟨_, ho⟩ := Kd.R_own hr
  obtain ⟨_, hc⟩ := own_typed ho bm e.symm
  exact map_apart hb hc rfl
end Go.Proofs.YtbobgajkboanfaaDoor.D2
/- Words for the walk of parts.add. -/
namespace Go.Proofs.YtbobgajkboanfaaDoor.D3
open Go.RowKit Go.Proofs.YtbobgajkboanfaaDoorW.PrintWords Go.Proofs.YtbobgajkboanfaaDoorW.PrintLast Go.Proofs.YtbobgajkboanfaaDoor.PCanonSames
open A1 A2 A3 B0 B1 B2 B4 C1 C2 C3 D1 D2
set_option linter.unusedVariables false
set_option linter.unusedSimpArgs false

theorem info68 : (Tryd.prog.info? 68).map (fun i => (i.zero, i.size, i.bytes)) = some (some (.agg #[(.int .i64 0), (.slice none 0 0)]), 2, 32) := by kernel_rfl
theorem zero3 (w : World) : (zeroValue 3).run Tryd.prog w = .ok (.int .i64 0) w := by kernel_rfl
theorem law9 : Maps.Keyed Tryd.prog 9 := Maps.string_keyed Tryd.underlying9
theorem good_mono {s : St} {B B' : Nat} (h : GoodT s B) (hb : B ≤ B') : GoodT s B' :=
  ⟨Nat.le_trans h.many hb, Nat.le_trans h.gsl hb, fun g hg => by have := h.first g hg; omega, fun i hi => by have := h.ids i hi; omega⟩
theorem wtS_le {l : List S41} {s : S41} (h : s ∈ l) : wtS s ≤ wtT l := by
  induction l with
  | nil => cases h
  | cons x r ih =>
    have e : wtT (x :: r) = wtS x + wtT r := rfl
    rcases List.mem_cons.1 h with rfl | h
    · omega
    · have := ih h; omega
theorem wtG_le {l : List S34} {g : S34} (h : g ∈ l) : wtG1 g ≤ wtG l := by
  induction l with
  | nil => cases h
  | cons x r ih =>
    have e : wtG (x :: r) = wtG1 x + wtG r := rfl
    rcases List.mem_cons.1 h with rfl | h
    · omega
    · have := ih h; omega
/-- What stands of the group that is added next. -/
structure Next (S : St) (g : S34) : Prop where
  idl : S.ids.length + g.f0.length ≤ 1048576
  wt : wtT g.f0 ≤ 1048576
  oks : ∀ s, s ∈ g.f0 → okS ((S.ids.length + g.f0.length : Nat) : Int) s = true
  sml : ∀ s, s ∈ g.f0 → s.f1.length ≤ 1048576 ∧ s.f2.f1.length ≤ 1048576 ∧ s.f2.f2.length ≤ 1048576 ∧ s.f2.f3.length ≤ 1048576
  good : GoodT S 2097152
  next : GoodT (stepSt S g) 2097152
  rng : ∀ s, s ∈ own S.ids g → rngS s
theorem facts {l : List S34} {s0 : St} {B : Nat} (h0 : s0.ids = []) (hw : wtG l ≤ 1048576) (hrg : rngL l) (hok : okL 0 l) (hB : GoodT s0 B) (hBl : B ≤ 1048576) {i : Nat} (hi : i < l.length) {S : St} (hS : S = addAll s0 (l.take i)) : Next S (rd_T34 l i) := by
  have hm := mem_T34 l i hi
  have e0 := ids_len s0 (l.take i)
  rw [← hS, h0] at e0
  simp only [List.length_nil, Nat.zero_add] at e0
  have e1 := total_take_step l i hi
  have e2 := total_take l (i + 1)
  have e3 := wtG_total l
  have e4 := wtG_le hm
  have e5 := wtG_take l (i + 1)
  have e6 := wtG_take l i
  have hwt : wtT (rd_T34 l i).f0 ≤ 1048576 := by unfold wtG1 at e4; omega
  have hg := hB.take l hw i
  rw [← hS] at hg
  have hg1 := hB.take l hw (i + 1)
  rw [addAll_step _ _ _ hi, ← hS] at hg1
  have hgd := good_mono (B' := 2097152) hg (by omega)
  have hoks : ∀ s, s ∈ (rd_T34 l i).f0 → okS ((S.ids.length + (rd_T34 l i).f0.length : Nat) : Int) s = true := by
    intro s hs
    have := okT_okS (okL_at hok i hi s hs)
    rw [e1, Nat.zero_add, ← e0] at this
    exact this
  refine ⟨by omega, hwt, hoks, fun s hs => ?_, hgd, good_mono hg1 (by omega), fun s hs => ?_⟩
  · have := wtS_le hs
    unfold wtS at this
    omega
  · obtain ⟨x, hx, rfl⟩ := List.mem_map.1 hs
    refine mapS_rng (by omega) (fun j hj => ?_) ?_ (hoks x hx) (hrg _ hm x hx)
    · have := hgd.ids j hj
      unfold inI
      omega
    · omega
theorem R_C {α : Type} {d : Kd α} {e base : Nat} {ok : Nat → Prop} {w : World} {A : Option Addr} {n c : Nat} {xs : List α} (h : d.R e w base ok (.slice A n c) xs) : n = xs.length ∧ d.C w A xs.length xs := by
  obtain ⟨A1, c1, e1, _, hc⟩ := Kd.R_reads h
  injection e1 with ea en ec
  subst ea
  exact ⟨by omega, hc⟩
theorem tab_up {w0 wr : World} (h : TAB w0.heap.size w0) (hb : Below w0.heap.size w0 wr) : TAB wr.heap.size wr := fun w' h' => h w' (below_then hb hb.size h')
theorem findK_place {O : List S41} {S : St} {j : Nat} (h : findK O S.gs = some j) : gsOf O S = S.gs ∧ manyOf O S = S.many ∧ place O S = j := by
  unfold gsOf manyOf place
  rw [h]
  exact ⟨rfl, rfl, rfl⟩
theorem findK_none {O : List S41} {S : St} (h : findK O S.gs = none) : gsOf O S = S.gs ++ [⟨S.many, O⟩] ∧ manyOf O S = S.many + O.length ∧ place O S = S.gs.length := by
  unfold gsOf manyOf place
  rw [h]
  exact ⟨rfl, rfl, rfl⟩
theorem step_eq (S : St) (g : S34) : stepSt S g = ⟨gsOf (own S.ids g) S, manyOf (own S.ids g) S, S.ids ++ fam (rd_T68 (gsOf (own S.ids g) S) (place (own S.ids g) S)).f0 (own S.ids g).length⟩ := rfl
theorem key_toList (O : List S41) : (ByteArray.mk (keyB O).toArray).data.toList = keyB O := by simp
theorem key_of (O : List S41) (h : (keyB O).length ≤ 209715200) : keyOf Tryd.prog 9 (.string ⟨(keyB O).toArray⟩) = some (.string (keyB O)) := by
  have := WideMaps.keyOf_string_mk (P := Tryd.prog) Tryd.underlying9 (s := ⟨(keyB O).toArray⟩) (by show (keyB O).toArray.size ≤ _; rw [List.size_toArray]; exact Nat.le_trans h (by decide))
  rw [key_toList] at this
  exact this
theorem val_of (n : Nat) (h : n ≤ 2097152) : plainElem (H := Unit) Tryd.prog 3 (.int .i64 (n : Int)) = some (.lit (.int .i64 (n : Int)), []) := by
  refine plainElem_int Tryd.underlying3 ?_
  have e1 : IntKind.min .i64 = -9223372036854775808 := by decide
  have e2 : IntKind.max .i64 = 9223372036854775807 := by decide
  simp only [Lit.wf, e1, e2, decide_eq_true_eq, Bool.and_eq_true]
  omega
end Go.Proofs.YtbobgajkboanfaaDoor.D3
