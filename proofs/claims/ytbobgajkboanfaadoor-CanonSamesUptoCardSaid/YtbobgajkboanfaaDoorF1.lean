/- What stands while the reference's table is made. -/
import Derived.Test.YtbobgajkboanfaaDoorE2
import Derived.Test.YtbobgajkboanfaaDoorE4
namespace Go.Proofs.YtbobgajkboanfaaDoor.F1
open Go.RowKit Go.Proofs.YtbobgajkboanfaaDoorW.PrintWords Go.Proofs.YtbobgajkboanfaaDoorW.PrintLast Go.Proofs.YtbobgajkboanfaaDoor.PCanonSames
open A1 A2 A3 B0 B1 B2 B3 B4 C1 C2 C3 D1 D2 D3 D4 E1 E2 E3 E4
set_option linter.unusedVariables false
set_option linter.unusedSimpArgs false

theorem info85 : (Tryd.prog.info? 85).map (fun i => (i.zero, i.size, i.bytes)) = some (some (.agg #[(.slice none 0 0), (.int .i64 0)]), 2, 32) := by kernel_rfl
/-- A group, as the reference keeps it. -/
def conv (g : S68) : S85 := ⟨g.f1, g.f0⟩
theorem rd_conv (gs : List S68) (i : Nat) (h : i < gs.length) : rd_T85 (gs.map conv) i = conv (rd_T68 gs i) := by
  unfold rd_T85 rd_T68
  rw [Int.toNat_natCast, List.getD_eq_getElem?_getD, List.getD_eq_getElem?_getD, List.getElem?_map, List.getElem?_eq_getElem h]
  rfl
/-- Each block of cells stays as it is, but the table's own and those of groups. -/
def Keep85 (tp : Nat) (w w' : World) : Prop := ∀ k cs t, w.heap[k]? = some (.cells cs t (0, 0)) → t ≠ 85 → k ≠ tp → w'.heap[k]? = some (.cells cs t (0, 0))
theorem Keep85.refl (tp : Nat) (w : World) : Keep85 tp w w := fun _ _ _ h _ _ => h
theorem Keep85.trans {tp : Nat} {a b c : World} (h : Keep85 tp a b) (k : Keep85 tp b c) : Keep85 tp a c := fun i cs t hi ht hg => k i cs t (h i cs t hi ht hg) ht hg
theorem Keep85.same {tp : Nat} {a b c : World} (h : Keep85 tp a b) (k : Below b.heap.size b c) : Keep85 tp a c := fun i cs t hi ht hg => blk_below (h i cs t hi ht hg) k
theorem Keep85.row {tp : Nat} {a b c : World} (h : Keep85 tp a b) {n : Nat} (k : Below n b c) (hn : a.heap.size ≤ n) : Keep85 tp a c := fun i cs t hi ht hg => by
  have hl := blk_lt hi
  rw [k.block i (by omega)]
  exact h i cs t hi ht hg

/-- What stands while parts.add runs: w0: where the groups are read; w: where the call began; ut: what the table's cell holds; u: its row. -/
structure RCore (w0 w : World) (tp : Nat) (ut : Value) (many : Int) (u : Value) (gs : List S68) (v : Value) (ids : List Int) (wr : World) : Prop where
  lg : w0.heap.size ≤ tp
  lw : w0.heap.size ≤ w.heap.size
  below : Below w0.heap.size w0 wr
  size : w.heap.size ≤ wr.heap.size
  keep : Keep85 tp w wr
  tab : wr.heap[tp]? = some (.cells #[ut, .int .i64 many] 60 (0, 0))
  gsR : k85.R 85 wr w0.heap.size (fun k => some k ≠ v.ownBlock) u (gs.map conv)
  idsR : (Kd.int .i64).R 3 wr w.heap.size (fun _ => True) v ids
section
variable {w0 w : World} {tp : Nat} {ut : Value} {many : Int} {u : Value} {gs : List S68} {v : Value} {ids : List Int} {wr w1 : World}
theorem RCore.same (h : RCore w0 w tp ut many u gs v ids wr) (hb : Below wr.heap.size wr w1) : RCore w0 w tp ut many u gs v ids w1 :=
  ⟨h.lg, h.lw, below_then h.below h.below.size hb, Nat.le_trans h.size hb.size, h.keep.same hb, blk_below h.tab hb, Kd.R_below h.gsR hb, Kd.R_below h.idsR hb⟩
theorem RCore.alloc (h : RCore w0 w tp ut many u gs v ids wr) (o : Obj) : RCore w0 w tp ut many u gs v ids (wr.alloc o) := h.same (below_alloc (Below.refl _ _) o)
theorem RCore.drew (h : RCore w0 w tp ut many u gs v ids wr) : RCore w0 w tp ut many u gs v ids wr.drew := ⟨h.lg, h.lw, below_drew h.below, h.size, h.keep, h.tab, Kd.R_drew h.gsR, Kd.R_drew h.idsR⟩
theorem RCore.ids_lt (h : RCore w0 w tp ut many u gs v ids wr) : ∀ k, wr.heap.size ≤ k → some k ≠ v.ownBlock := by
  intro k hk e
  obtain ⟨_, ho⟩ := Kd.R_own h.idsR
  have := own_lt ho k e.symm
  omega
/-- Behind an append to the groups. -/
theorem RCore.gsApp (h : RCore w0 w tp ut many u gs v ids wr) {u' : Value} {gs' : List S68} (hb : Below w0.heap.size w0 w1) (hg : wr.grownBy w1 u.ownBlock) (ho : k85.R 85 w1 w0.heap.size (fun k => some k ≠ v.ownBlock) u' (gs'.map conv)) : RCore w0 w tp ut many u' gs' v ids w1 := by
  refine ⟨h.lg, h.lw, hb, Nat.le_trans h.size hg.size, fun k cs t hk ht htp => blk_grown (h.keep k cs t hk ht htp) hg (Kd.R_ne h.gsR (h.keep k cs t hk ht htp) (Ne.symm ht)), blk_grown h.tab hg (Kd.R_ne h.gsR h.tab (by decide)), ho, Kd.R_grown2 h.idsR rfl hg (fun k hk e => ?_)⟩
  obtain ⟨_, ho1⟩ := Kd.R_own h.gsR
  obtain ⟨_, hc⟩ := own_typed ho1 k hk
  exact Kd.R_ne h.idsR hc (by decide) e
/-- Behind an append to the ids. -/
theorem RCore.idsApp (h : RCore w0 w tp ut many u gs v ids wr) {v' : Value} {ids' : List Int} (hg : wr.grownBy w1 v.ownBlock) (hat : v'.ownBlock = v.ownBlock ∨ ∃ b, v'.ownBlock = some b ∧ wr.heap.size ≤ b) (ho : (Kd.int .i64).R 3 w1 w.heap.size (fun _ => True) v' ids') : RCore w0 w tp ut many u gs v' ids' w1 := by
  have hbase : ∀ k, v.ownBlock = some k → w.heap.size ≤ k := fun k hk => by obtain ⟨_, ho1⟩ := Kd.R_own h.idsR; exact own_base ho1 k hk
  refine ⟨h.lg, h.lw, h.below.grown hg h.below.size (fun k e => Nat.le_trans h.lw (hbase k e)), Nat.le_trans h.size hg.size, fun k cs t hk ht htp => blk_grown (h.keep k cs t hk ht htp) hg (fun e => ?_), blk_grown h.tab hg (Kd.R_ne h.idsR h.tab (by decide)), ?_, ho⟩
  · have := hbase k e.symm
    have := blk_lt hk
    omega
  · exact Kd.R_mono (Kd.R_after (ok := fun _ => True) (Kd.R_mono h.gsR (fun _ hk => ⟨trivial, hk⟩)) hg hat) (fun _ hk => hk.2)
theorem RCore.setGs (h : RCore w0 w tp ut many u gs v ids wr) (x : Value) : RCore w0 w tp x many u gs v ids (wr.setCell ⟨tp, 0, none⟩ x) :=
  ⟨h.lg, h.lw, h.below.setCell h.lg _, by simpa [World.setCell] using h.size, fun k cs t hk ht htp => blk_far (h.keep k cs t hk ht htp) htp _, blk_put h.tab 0 _ rfl, Kd.R_set h.gsR h.tab (by decide) 0 x, Kd.R_set h.idsR h.tab (by decide) 0 x⟩
theorem RCore.setMany (h : RCore w0 w tp ut many u gs v ids wr) (m : Int) : RCore w0 w tp ut m u gs v ids (wr.setCell ⟨tp, 1, none⟩ (.int .i64 m)) :=
  ⟨h.lg, h.lw, h.below.setCell h.lg _, by simpa [World.setCell] using h.size, fun k cs t hk ht htp => blk_far (h.keep k cs t hk ht htp) htp _, blk_put h.tab 1 _ rfl, Kd.R_set h.gsR h.tab (by decide) 1 _, Kd.R_set h.idsR h.tab (by decide) 1 _⟩
end

theorem R_keep85 {w w' : World} {tp base : Nat} {ok : Nat → Prop} {v : Value} {xs : List Int} {cs : Array Value} (h : (Kd.int .i64).R 3 w base ok v xs) (hk : Keep85 tp w w') (ht : w.heap[tp]? = some (.cells cs 60 (0, 0))) : (Kd.int .i64).R 3 w' base (fun _ => True) v xs := by
  refine Kd.R_mono (Kd.R_step (Kd.R_bound h) (fun k hb hl => ?_)) (fun _ _ => trivial)
  obtain ⟨_, _, _, q, hq, cells, hc⟩ := hb
  have hq3 : q = 3 := by simpa [Kd.int, Kd.scalar] using hq
  subst hq3
  rw [hk k cells 3 hc (by decide) (blk_ne hc ht (by decide)), hc]
theorem rcore_new (w w1 : World) (h : Below w.heap.size w w1) : RCore w (w1.alloc (.cells #[.slice none 0 0, .int .i64 0] 60)) w1.heap.size (.slice none 0 0) ((0 : Nat) : Int) (.slice none 0 0) [] (.slice none 0 0) [] (w1.alloc (.cells #[.slice none 0 0, .int .i64 0] 60)) := by
  have h2 := below_alloc h (.cells #[.slice none 0 0, .int .i64 0] 60)
  exact ⟨h.size, h2.size, h2, Nat.le_refl _, Keep85.refl _ _, blk_new w1 _, Kd.R_nil _ _ _ _ _, Kd.R_nil _ _ _ _ _⟩
theorem rcore_again {w0 w wr : World} {tp : Nat} {u v : Value} {many : Int} {gs : List S68} {ids : List Int} (h : RCore w0 w tp u many u gs v ids wr) : RCore w0 wr tp u many u gs (.slice none 0 0) [] wr :=
  ⟨h.lg, Nat.le_trans h.lw h.size, h.below, Nat.le_refl _, Keep85.refl _ _, h.tab, Kd.R_mono h.gsR (fun _ _ => by simp [Value.ownBlock]), Kd.R_nil _ _ _ _ _⟩
/-- The groups' lists are short. -/
def SmallGs (gs : List S68) : Prop := ∀ x, x ∈ gs → x.f1.length ≤ 1048576 ∧ ∀ s, s ∈ x.f1 → small s
theorem small_map {ids : List Int} {s : S41} (h : small s) : small (mapS ids s) := by
  unfold small mapS at *
  simpa using h
theorem smallGs_step {S : St} {g : S34} (h : SmallGs S.gs) (hn : D3.Next S g) : SmallGs (stepSt S g).gs := by
  show SmallGs (gsOf _ _)
  unfold gsOf
  split
  · exact h
  · intro x hx
    rcases List.mem_append.1 hx with hx | hx
    · exact h x hx
    · simp only [List.mem_singleton] at hx
      subst hx
      refine ⟨by rw [own_len]; have := hn.idl; omega, fun s hs => ?_⟩
      obtain ⟨y, hy, rfl⟩ := List.mem_map.1 hs
      exact small_map (hn.sml y hy)
theorem find_none_step {O : List S41} {gs : List S68} {i : Nat} (hi : i < gs.length) (h : (gs.take i).findIdx? (D1.sameKey O) = none) (hk : (keyB (rd_T68 gs i).f1 == keyB O) = false) : (gs.take (i + 1)).findIdx? (D1.sameKey O) = none := by
  have e : gs.take (i + 1) = gs.take i ++ [rd_T68 gs i] := by
    rw [List.take_succ_eq_append_getElem hi]; unfold rd_T68; rw [Int.toNat_natCast, List.getD_eq_getElem?_getD, List.getElem?_eq_getElem hi]; rfl
  rw [e, List.findIdx?_append, h]
  have : D1.sameKey O (rd_T68 gs i) = false := hk
  simp [List.findIdx?_cons, this]
theorem find_some_step {O : List S41} {gs : List S68} {i : Nat} (hi : i < gs.length) (h : (gs.take i).findIdx? (D1.sameKey O) = none) (hk : (keyB (rd_T68 gs i).f1 == keyB O) = true) : findK O gs = some i := by
  have e : gs = gs.take i ++ rd_T68 gs i :: gs.drop (i + 1) := by
    have : gs.drop i = rd_T68 gs i :: gs.drop (i + 1) := by
      rw [List.drop_eq_getElem_cons hi]; unfold rd_T68; rw [Int.toNat_natCast, List.getD_eq_getElem?_getD, List.getElem?_eq_getElem hi]; rfl
    rw [← this, List.take_append_drop]
  unfold findK
  rw [e, List.findIdx?_append, h]
  have : D1.sameKey O (rd_T68 gs i) = true := hk
  have hl : (gs.take i).length = i := by rw [List.length_take]; omega
  simp [List.findIdx?_cons, this, hl]
end Go.Proofs.YtbobgajkboanfaaDoor.F1
