/- Words for the walks of types.turned and canon.mapped. -/
import Derived.Test.YtbobgajkboanfaaDoorPCanonSamesx0
import Derived.Handy
import Derived.Deep.LoopGhost
/- The small closures of types.Closed, canon.rolled. -/
namespace Go.Proofs.YtbobgajkboanfaaDoor.A1
open Go.RowKit Go.Proofs.YtbobgajkboanfaaDoorW.PrintWords
set_option linter.unusedVariables false
set_option linter.unusedSimpArgs false

def okH (en h : Int) : Bool := decide (h < en) && decide (h ≥ -12)

theorem closed1 (h en : Int) (ok : Bool) (bo be : Nat) (w : World) (hne : bo ≠ be)
    (ho : w.cell? ⟨bo, 0, none⟩ = some (.bool ok)) (hf : w.frozen? ⟨bo, 0, none⟩ = false) (he : w.cell? ⟨be, 0, none⟩ = some (.int .i64 en)) :
    Calls Tryd.prog 16 #[.int .i64 h, .pointer (some ⟨bo, 0, none⟩), .pointer (some ⟨be, 0, none⟩)] w fun e w' => e = .returned (.int .i64 h) ∧ w.setCell ⟨bo, 0, none⟩ (.bool (ok && okH en h)) = w' := by
  unfold okH
  cases ok
  · go_enter Tryd.func16, Tryd.ntmps16
    go_wp2
    go_ret
    simp
  · by_cases h1 : h < en
    · by_cases h2 : h ≥ -12
      · go_enter Tryd.func16, Tryd.ntmps16
        go_wp2
        go_ret
        simp [h1, h2]
      · have e2 := Aside0.mk (show decide (-12 ≤ h) = false from decide_eq_false h2)
        go_enter Tryd.func16, Tryd.ntmps16
        go_wp2
        go_ret
        simp [h1, e2.out]
    · have e1 := Aside0.mk (show decide (h < en) = false from decide_eq_false h1)
      go_enter Tryd.func16, Tryd.ntmps16
      go_wp2
      go_ret
      simp [e1.out]

def turnI (ids : List Int) (h : Int) : Int := if h < 0 then h else if h < ids.length then rd ids h else -100 - (h - ids.length)
theorem turnI_neg {ids : List Int} {h : Int} (c : h < 0) : turnI ids h = h := by simp [turnI, c]
theorem turnI_in {ids : List Int} {h : Int} (c : 0 ≤ h) (d : h < ids.length) : turnI ids h = rd ids h := by unfold turnI; rw [if_neg (by omega), if_pos d]
theorem turnI_own {ids : List Int} {h : Int} (c : (ids.length : Int) ≤ h) : turnI ids h = -100 - (h - ids.length) := by unfold turnI; rw [if_neg (by omega), if_neg (by omega)]
theorem rolled1 (h : Int) (ids : List Int) (A : Option Addr) (c g : Nat) (w : World) (hg : w.cell? ⟨g, 0, none⟩ = some (.slice A ids.length c)) (hc : (Kd.int .i64).C w A ids.length ids) (hb : ids.length ≤ 1048576) (h1 : -9000000000000000000 ≤ h) (h2 : h ≤ 9000000000000000000) :
    Calls Tryd.prog 23 #[.int .i64 h, .pointer (some ⟨g, 0, none⟩)] w fun e w' => e = .returned (.int .i64 (turnI ids h)) ∧ w = w' := by
  by_cases c1 : h < 0
  · go_enter Tryd.func23, Tryd.ntmps23
    go_wp2
    go_ret
    exact ⟨by rw [turnI_neg c1]; rfl, rfl⟩
  · by_cases c2 : h < (ids.length : Int)
    · obtain ⟨ad, rfl, hx⟩ := Kd.at_int hc h (by omega) c2
      go_enter Tryd.func23, Tryd.ntmps23
      go_wp2
      go_ret
      exact ⟨by rw [turnI_in c1 c2]; rfl, rfl⟩
    · go_enter Tryd.func23, Tryd.ntmps23
      go_wp2
      go_ret
      exact ⟨by rw [turnI_own c2]; rfl, rfl⟩
end Go.Proofs.YtbobgajkboanfaaDoor.A1
/- The closures over value types of types.turned and canon.mapped. -/
namespace Go.Proofs.YtbobgajkboanfaaDoor.A2
open Go.RowKit Go.Proofs.YtbobgajkboanfaaDoorW.PrintWords Go.Proofs.YtbobgajkboanfaaDoor.PCanonSames
open A1
set_option linter.unusedVariables false
set_option linter.unusedSimpArgs false

def mapV (ids : List Int) (v : S72) : S72 := if v.f0 = 5 then ⟨v.f0, v.f1, turnI ids v.f2⟩ else ⟨v.f0, false, 0⟩

set_option maxHeartbeats 400000 in
theorem mapped1 (v : S72) (ids : List Int) (A : Option Addr) (c gf gi : Nat) (w : World) (hgf : w.cell? ⟨gf, 0, none⟩ = some (.func (.func 23) #[] #[.pointer (some ⟨gi, 0, none⟩)]))
    (hgi : w.cell? ⟨gi, 0, none⟩ = some (.slice A ids.length c)) (hc : (Kd.int .i64).C w A ids.length ids) (hb : ids.length ≤ 1048576) (h1 : v.f0 = 5 → -9000000000000000000 ≤ v.f2) (h2 : v.f0 = 5 → v.f2 ≤ 9000000000000000000) :
    Calls Tryd.prog 24 #[.agg #[.int .i64 v.f0, .bool v.f1, .int .i64 v.f2], .pointer (some ⟨gf, 0, none⟩)] w fun e w' => e = .returned (.agg #[.int .i64 (mapV ids v).f0, .bool (mapV ids v).f1, .int .i64 (mapV ids v).f2]) ∧ Below w.heap.size w w' := by
  obtain ⟨f0, f1, f2⟩ := v
  dsimp only at h1 h2 ⊢
  unfold mapV
  dsimp only
  by_cases c5 : f0 = 5
  · subst c5
    replace h1 := h1 rfl
    replace h2 := h2 rfl
    have hR := fun w' (hb' : Below w.heap.size w w') => rolled1 f2 ids A c gi w' (pw_cell_below hb' hgi) (Kd.C_below hc hb') hb h1 h2
    have HC := Aside0.mk hc
    clear hc
    have HR := Aside0.mk hR
    clear hR
    have l1 : gf < w.heap.size := World.block_lt_of_cell? w _ hgf
    have l2 : gf < w.heap.size + 1 := by omega
    go_enter Tryd.func24, Tryd.ntmps24
    go_wp2_with (go_at_call 23; go_loud (refine (HR.out _ (by go_grown)).mono ?_); rintro e w' ⟨rfl, rfl⟩)
    go_returns
    exact ⟨by simp, by go_grown⟩
  · have e1 : (f0 == 5) = false := beq_eq_false_iff_ne.mpr c5
    have e2 : (f0 != 5) = true := bne_iff_ne.mpr c5
    clear hc
    go_enter Tryd.func24, Tryd.ntmps24
    go_wp2
    go_returns
    exact ⟨by simp [c5], by go_grown⟩
end Go.Proofs.YtbobgajkboanfaaDoor.A2
/- The closure over value types of types.turned, as types.Closed hands it its own closure. -/
namespace Go.Proofs.YtbobgajkboanfaaDoor.A3
open Go.RowKit Go.Proofs.YtbobgajkboanfaaDoorW.PrintWords Go.Proofs.YtbobgajkboanfaaDoor.PCanonSames
open A1 A2
set_option linter.unusedVariables false
set_option linter.unusedSimpArgs false

def okV (en : Int) (v : S72) : Bool := if v.f0 = 5 then okH en v.f2 else true

theorem grown_alloc {w W : World} {row : Option Nat} (h : w.grownBy W row) (o : Obj) : w.grownBy (W.alloc o) row :=
  ⟨h.os, h.tape, h.output, by have := h.size; simp; omega, fun k hk hr => (Below.heap_alloc W o k (Nat.lt_of_lt_of_le hk h.size)).trans (h.block k hk hr)⟩
theorem grown_drewN {w W : World} {row : Option Nat} (h : w.grownBy W row) (n : Nat) : w.grownBy (W.drewN n) row := ⟨h.os, h.tape, h.output, h.size, h.block⟩
theorem grown_drew {w W : World} {row : Option Nat} (h : w.grownBy W row) : w.grownBy W.drew row := ⟨h.os, h.tape, h.output, h.size, h.block⟩
theorem grown_row {w W : World} {b : Nat} (h : w.grownBy W (some b)) (i : Nat) (u : Value) : w.grownBy (W.setCell ⟨b, i, none⟩ u) (some b) :=
  ⟨h.os, h.tape, h.output, by have := h.size; simpa [World.setCell] using this, fun k hk hr => (Below.heap_setCell W _ u k (fun e => hr (by rw [e]))).trans (h.block k hk hr)⟩
theorem grown_new {w W : World} {row : Option Nat} (h : w.grownBy W row) {p : Addr} (hp : w.heap.size ≤ p.block) (u : Value) : w.grownBy (W.setCell p u) row :=
  ⟨h.os, h.tape, h.output, by have := h.size; simpa [World.setCell] using this, fun k hk hr => (Below.heap_setCell W _ u k (by omega)).trans (h.block k hk hr)⟩
theorem grown_refl (w : World) (row : Option Nat) : w.grownBy w row := ⟨rfl, rfl, rfl, Nat.le_refl _, fun _ _ _ => rfl⟩
theorem grown_below {w W W' : World} {row : Option Nat} (h : w.grownBy W row) (hb : Below W.heap.size W W') : w.grownBy W' row :=
  ⟨hb.os.trans h.os, hb.tape.trans h.tape, hb.output.trans h.output, Nat.le_trans h.size hb.size, fun k hk hr => (hb.block k (Nat.lt_of_lt_of_le hk h.size)).trans (h.block k hk hr)⟩
theorem grown_grown {w W W' : World} {b : Nat} (h : w.grownBy W (some b)) (k : W.grownBy W' (some b)) : w.grownBy W' (some b) :=
  ⟨k.os.trans h.os, k.tape.trans h.tape, k.output.trans h.output, Nat.le_trans h.size k.size, fun i hi hr => (k.block i (Nat.lt_of_lt_of_le hi h.size) hr).trans (h.block i hi hr)⟩

set_option maxHeartbeats 800000 in
theorem turned1 (v : S72) (en : Int) (ok : Bool) (gf bo be : Nat) (w : World) (hgf : w.cell? ⟨gf, 0, none⟩ = some (.func (.func 16) #[] #[.pointer (some ⟨bo, 0, none⟩), .pointer (some ⟨be, 0, none⟩)]))
    (hbo : w.heap[bo]? = some (.cells #[.bool ok] 4 (0, 0))) (hbe : w.heap[be]? = some (.cells #[.int .i64 en] 3 (0, 0))) :
    Calls Tryd.prog 22 #[.agg #[.int .i64 v.f0, .bool v.f1, .int .i64 v.f2], .pointer (some ⟨gf, 0, none⟩)] w fun e w' => e = .returned (.agg #[.int .i64 v.f0, .bool v.f1, .int .i64 v.f2]) ∧ w.grownBy w' (some bo) ∧ w'.heap[bo]? = some (.cells #[.bool (ok && okV en v)] 4 (0, 0)) := by
  have hne : bo ≠ be := blk_ne hbo hbe (by decide)
  have l1 : gf < w.heap.size := World.block_lt_of_cell? w _ hgf
  have l2 : gf < w.heap.size + 1 := by omega
  have l3 : bo < w.heap.size := blk_lt hbo
  have l4 : bo ≠ w.heap.size := by omega
  have l5 : bo ≠ w.heap.size + 1 := by omega
  obtain ⟨f0, f1, f2⟩ := v
  unfold okV
  dsimp only
  by_cases c5 : f0 = 5
  · subst c5
    have hR := fun w' (hb' : Below w.heap.size w w') => closed1 f2 en ok bo be w' hne ((blk_cell (blk_below hbo hb') 0).trans rfl) (blk_frozen (blk_below hbo hb') 0) ((blk_cell (blk_below hbe hb') 0).trans rfl)
    have HR := Aside0.mk hR
    have HBO := Aside0.mk hbo
    clear hR hbo hbe
    go_enter Tryd.func22, Tryd.ntmps22
    go_wp2_with (go_at_call 16; go_loud (refine (HR.out _ (by go_grown)).mono ?_); rintro e w' ⟨rfl, rfl⟩)
    go_returns
    refine ⟨by simp, ?_, ?_⟩
    · exact grown_alloc (grown_alloc (grown_row (grown_refl _ _) 0 _) _) _
    · exact blk_alloc (blk_alloc (blk_set HBO.out 0 _) _) _
  · have e1 : (f0 == 5) = false := beq_eq_false_iff_ne.mpr c5
    have e2 : (f0 != 5) = true := bne_iff_ne.mpr c5
    have HBO := Aside0.mk hbo
    clear hbo hbe
    go_enter Tryd.func22, Tryd.ntmps22
    go_wp2
    go_returns
    refine ⟨by simp, ?_, ?_⟩
    · exact grown_alloc (grown_alloc (grown_refl _ _) _) _
    · exact blk_alloc (blk_alloc HBO.out _) _
end Go.Proofs.YtbobgajkboanfaaDoor.A3
/- Words for the walks of types.turned and canon.mapped. -/
namespace Go.Proofs.YtbobgajkboanfaaDoor.B0
open Go.RowKit Go.Proofs.YtbobgajkboanfaaDoorW.PrintWords Go.Proofs.YtbobgajkboanfaaDoorW.PrintLast Go.Proofs.YtbobgajkboanfaaDoor.PCanonSames
open A1 A2 A3
set_option linter.unusedVariables false
set_option linter.unusedSimpArgs false

theorem size_alloc' (w : World) (o : Obj) : (w.alloc o).heap.size = w.heap.size + 1 := by simp
theorem blk_at {w : World} {n : Nat} (h : n = w.heap.size) (o : Obj) : (w.alloc o).heap[n]? = some o := by subst h; exact blk_new w o
theorem four (w : World) (A B C D : Obj) : ((((w.alloc A).alloc B).alloc C).alloc D).heap[w.heap.size]? = some A ∧ ((((w.alloc A).alloc B).alloc C).alloc D).heap[w.heap.size + 1]? = some B ∧ ((((w.alloc A).alloc B).alloc C).alloc D).heap[w.heap.size + 2]? = some C ∧ ((((w.alloc A).alloc B).alloc C).alloc D).heap[w.heap.size + 3]? = some D := by
  refine ⟨?_, ?_, ?_, ?_⟩
  · exact blk_alloc (blk_alloc (blk_alloc (blk_at rfl A) B) C) D
  · exact blk_alloc (blk_alloc (blk_at (by simp) B) C) D
  · exact blk_alloc (blk_at (by simp) C) D
  · exact blk_at (by simp) D

/-- A call of a function value made of function f and what it captured. -/
theorem runs_value {P : Program} {f : FuncId} {fn : Func} (hf : P.funcs[f]? = some fn) (hname : (fn.name == "runtime.NumGoroutine") = false) (hb : fn.body.isSome = true) (args : Array Value) (w : World) : (callFunc f args).run P w = .ok (.enter f args) w := enters_ hf hname hb args w

/-- What stands while types.turned runs: its boxes, what it makes, the flag of its caller. -/
structure TInv (w : World) (bo : Nat) (c0 c1 c2 c3 c4 c5 : Value) (fv : Value) (okA : Bool) (v1 v3 v4 v5 : Value) (wr : World) : Prop where
  grown : w.grownBy wr (some bo)
  flag : wr.heap[bo]? = some (.cells #[.bool okA] 4 (0, 0))
  box : wr.heap[w.heap.size]? = some (.cells #[c0, c1, c2, c3, c4, c5] 41 (0, 0))
  fun_ : wr.heap[w.heap.size + 1]? = some (.cells #[fv] 62 (0, 0))
  out : wr.heap[w.heap.size + 1 + 1 + 1]? = some (.cells #[c0, v1, c2, v3, v4, v5] 41 (0, 0))
  res : wr.heap[w.heap.size + 1 + 1]? = some (.cells #[.bool false, .slice none 0 0, .int .i64 0, .slice none 0 0, .slice none 0 0, .slice none 0 0] 41 (0, 0))
/-- A cell of the world in which the rows were read is as it was. -/
theorem cell0 {w0 w wr : World} {bo : Nat} (h0 : Below w0.heap.size w0 w) (hl : w0.heap.size ≤ bo) (hg : w.grownBy wr (some bo)) {a : Addr} {v : Value} (hc : w0.cell? a = some v) : wr.cell? a = some v := by
  have hlt := World.block_lt_of_cell? w0 _ hc
  have h1 : w.cell? a = some v := pw_cell_below h0 hc
  rw [World.cell?_of_block (hg.block a.block (Nat.lt_of_lt_of_le hlt h0.size) (by intro e; injection e with e; omega))]
  exact h1
section
variable {P : Program} {ops : Array Oper} {Q : Exit → Act → World → Prop}
/-- A call of a function value, its value and what it captured known. -/
theorem goesV_ {oi : Oper} {N : Option Tmp} {a : Act} {w : World} {K : Act → World → Prop} {f : FuncId} {fn : Func} {ars : Array Operand} {ts : Array TypeId} {t : Tmp} {cap : Array Value} (hf : P.funcs[f]? = some fn) (hname : (fn.name == "runtime.NumGoroutine") = false) (hb : fn.body.isSome = true) (given args : Array Value)
    (hw : Region.wanted oi (yielded ops a.tmps) = true) (hN : oi.dst = N) (hop : oi.op = .call { callee := .value (.tmp t), args := ars, argTypes := ts }) (hv : a.eval (.tmp t) = .func (.func f) #[] cap) (hgiven : ars.map a.eval = given) (hargs : given ++ cap = args)
    (h : Calls P f args w fun e w' => ∃ v, e = .returned v ∧ K (a.put N v) w') : if Region.wanted oi (yielded ops a.tmps) = true then Oper.wp P oi a w K Q else K (a.put N undef) w := by
  refine call_ f args hw hN ?_ h
  have he := enters_ hf hname hb args w
  unfold execOp
  simp [hop, resolve, Deferred.ofValue, invoke, hv, hgiven, hargs, he]
end
theorem TInv.drew {w : World} {bo : Nat} {c0 c1 c2 c3 c4 c5 fv : Value} {okA : Bool} {v1 v3 v4 v5 : Value} {wr : World} (h : TInv w bo c0 c1 c2 c3 c4 c5 fv okA v1 v3 v4 v5 wr) : TInv w bo c0 c1 c2 c3 c4 c5 fv okA v1 v3 v4 v5 wr.drew :=
  ⟨grown_drew h.grown, h.flag, h.box, h.fun_, h.out, h.res⟩
section
variable {w : World} {bo : Nat} {c0 c1 c2 c3 c4 c5 fv : Value} {okA : Bool} {v1 v3 v4 v5 : Value} {wr w1 : World}
theorem TInv.flagged (h : TInv w bo c0 c1 c2 c3 c4 c5 fv okA v1 v3 v4 v5 wr) (hl : bo < w.heap.size) (b : Bool) : TInv w bo c0 c1 c2 c3 c4 c5 fv b v1 v3 v4 v5 (wr.setCell ⟨bo, 0, none⟩ (.bool b)) :=
  ⟨grown_row h.grown 0 _, blk_set h.flag 0 _, blk_far h.box (p := ⟨bo, 0, none⟩) (by show _ ≠ bo; omega) _, blk_far h.fun_ (p := ⟨bo, 0, none⟩) (by show _ ≠ bo; omega) _, blk_far h.out (p := ⟨bo, 0, none⟩) (by show _ ≠ bo; omega) _, blk_far h.res (p := ⟨bo, 0, none⟩) (by show _ ≠ bo; omega) _⟩
theorem TInv.same (h : TInv w bo c0 c1 c2 c3 c4 c5 fv okA v1 v3 v4 v5 wr) (hl : bo < w.heap.size) (hb : Below wr.heap.size wr w1) : TInv w bo c0 c1 c2 c3 c4 c5 fv okA v1 v3 v4 v5 w1 :=
  ⟨grown_below h.grown hb, blk_below h.flag hb, blk_below h.box hb, blk_below h.fun_ hb, blk_below h.out hb, blk_below h.res hb⟩
/-- Another closure has turned the flag, and new blocks have come. -/
theorem TInv.turned {b : Bool} (h : TInv w bo c0 c1 c2 c3 c4 c5 fv okA v1 v3 v4 v5 wr) (hl : bo < w.heap.size) (hg : wr.grownBy w1 (some bo)) (hf : w1.heap[bo]? = some (.cells #[.bool b] 4 (0, 0))) : TInv w bo c0 c1 c2 c3 c4 c5 fv b v1 v3 v4 v5 w1 :=
  ⟨grown_grown h.grown hg, hf, blk_grown h.box hg (by intro e; injection e with e; omega), blk_grown h.fun_ hg (by intro e; injection e with e; omega), blk_grown h.out hg (by intro e; injection e with e; omega), blk_grown h.res hg (by intro e; injection e with e; omega)⟩
/-- Behind an append to a row of the call's own that is no struct's block. -/
theorem TInv.appended (h : TInv w bo c0 c1 c2 c3 c4 c5 fv okA v1 v3 v4 v5 wr) (hl : bo < w.heap.size) (hb : Below w.heap.size wr w1) {row : Option Nat} (hg : wr.grownBy w1 row)
    (hne : ∀ g cs t, wr.heap[g]? = some (.cells cs t (0, 0)) → t = 41 ∨ t = 62 → some g ≠ row) : TInv w bo c0 c1 c2 c3 c4 c5 fv okA v1 v3 v4 v5 w1 :=
  ⟨⟨hb.os.trans h.grown.os, hb.tape.trans h.grown.tape, hb.output.trans h.grown.output, Nat.le_trans h.grown.size hb.size, fun k hk hr => (hb.block k hk).trans (h.grown.block k hk hr)⟩,
   (hb.block bo hl).trans h.flag, blk_grown h.box hg (hne _ _ _ h.box (.inl rfl)), blk_grown h.fun_ hg (hne _ _ _ h.fun_ (.inr rfl)), blk_grown h.out hg (hne _ _ _ h.out (.inl rfl)), blk_grown h.res hg (hne _ _ _ h.res (.inl rfl))⟩
theorem TInv.set1 (h : TInv w bo c0 c1 c2 c3 c4 c5 fv okA v1 v3 v4 v5 wr) (hl : bo < w.heap.size) (u : Value) : TInv w bo c0 c1 c2 c3 c4 c5 fv okA u v3 v4 v5 (wr.setCell ⟨w.heap.size + 1 + 1 + 1, 1, none⟩ u) :=
  ⟨grown_new h.grown (by show _ ≤ w.heap.size + 1 + 1 + 1; omega) _, blk_far h.flag (by show bo ≠ w.heap.size + 1 + 1 + 1; omega) _, blk_far h.box (by show w.heap.size ≠ w.heap.size + 1 + 1 + 1; omega) _, blk_far h.fun_ (by show w.heap.size + 1 ≠ w.heap.size + 1 + 1 + 1; omega) _, blk_set h.out 1 u, blk_far h.res (by show w.heap.size + 1 + 1 ≠ w.heap.size + 1 + 1 + 1; omega) _⟩
theorem TInv.set3 (h : TInv w bo c0 c1 c2 c3 c4 c5 fv okA v1 v3 v4 v5 wr) (hl : bo < w.heap.size) (u : Value) : TInv w bo c0 c1 c2 c3 c4 c5 fv okA v1 u v4 v5 (wr.setCell ⟨w.heap.size + 1 + 1 + 1, 3, none⟩ u) :=
  ⟨grown_new h.grown (by show _ ≤ w.heap.size + 1 + 1 + 1; omega) _, blk_far h.flag (by show bo ≠ w.heap.size + 1 + 1 + 1; omega) _, blk_far h.box (by show w.heap.size ≠ w.heap.size + 1 + 1 + 1; omega) _, blk_far h.fun_ (by show w.heap.size + 1 ≠ w.heap.size + 1 + 1 + 1; omega) _, blk_set h.out 3 u, blk_far h.res (by show w.heap.size + 1 + 1 ≠ w.heap.size + 1 + 1 + 1; omega) _⟩
theorem TInv.set4 (h : TInv w bo c0 c1 c2 c3 c4 c5 fv okA v1 v3 v4 v5 wr) (hl : bo < w.heap.size) (u : Value) : TInv w bo c0 c1 c2 c3 c4 c5 fv okA v1 v3 u v5 (wr.setCell ⟨w.heap.size + 1 + 1 + 1, 4, none⟩ u) :=
  ⟨grown_new h.grown (by show _ ≤ w.heap.size + 1 + 1 + 1; omega) _, blk_far h.flag (by show bo ≠ w.heap.size + 1 + 1 + 1; omega) _, blk_far h.box (by show w.heap.size ≠ w.heap.size + 1 + 1 + 1; omega) _, blk_far h.fun_ (by show w.heap.size + 1 ≠ w.heap.size + 1 + 1 + 1; omega) _, blk_set h.out 4 u, blk_far h.res (by show w.heap.size + 1 + 1 ≠ w.heap.size + 1 + 1 + 1; omega) _⟩
theorem TInv.set5 (h : TInv w bo c0 c1 c2 c3 c4 c5 fv okA v1 v3 v4 v5 wr) (hl : bo < w.heap.size) (u : Value) : TInv w bo c0 c1 c2 c3 c4 c5 fv okA v1 v3 v4 u (wr.setCell ⟨w.heap.size + 1 + 1 + 1, 5, none⟩ u) :=
  ⟨grown_new h.grown (by show _ ≤ w.heap.size + 1 + 1 + 1; omega) _, blk_far h.flag (by show bo ≠ w.heap.size + 1 + 1 + 1; omega) _, blk_far h.box (by show w.heap.size ≠ w.heap.size + 1 + 1 + 1; omega) _, blk_far h.fun_ (by show w.heap.size + 1 ≠ w.heap.size + 1 + 1 + 1; omega) _, blk_set h.out 5 u, blk_far h.res (by show w.heap.size + 1 + 1 ≠ w.heap.size + 1 + 1 + 1; omega) _⟩
end
theorem R_ne_size {α : Type} {d : Kd α} {e base : Nat} {ok : Nat → Prop} {w : World} {v : Value} {xs : List α} (h : d.R e w base ok v xs) : some w.heap.size ≠ v.ownBlock := by
  intro he
  obtain ⟨_, _, ho, _⟩ := h
  exact absurd (own_lt ho _ he.symm) (Nat.lt_irrefl _)
theorem take_rd (l : List Int) (k : Nat) (h : k < l.length) : l.take (k + 1) = l.take k ++ [rd l k] := by
  rw [List.take_succ_eq_append_getElem h]; unfold rd; rw [Int.toNat_natCast, List.getD_eq_getElem?_getD, List.getElem?_eq_getElem h]; rfl
theorem take_T72 (l : List S72) (k : Nat) (h : k < l.length) : l.take (k + 1) = l.take k ++ [rd_T72 l k] := by
  rw [List.take_succ_eq_append_getElem h]; unfold rd_T72; rw [Int.toNat_natCast, List.getD_eq_getElem?_getD, List.getElem?_eq_getElem h]; rfl
theorem take_T75 (l : List S75) (k : Nat) (h : k < l.length) : l.take (k + 1) = l.take k ++ [rd_T75 l k] := by
  rw [List.take_succ_eq_append_getElem h]; unfold rd_T75; rw [Int.toNat_natCast, List.getD_eq_getElem?_getD, List.getElem?_eq_getElem h]; rfl
theorem all_snoc {α : Type} (p : α → Bool) (l : List α) (x : α) (o : Bool) : ((o && l.all p) && p x) = (o && (l ++ [x]).all p) := by
  rw [List.all_append, List.all_cons, List.all_nil, Bool.and_true, Bool.and_assoc]
end Go.Proofs.YtbobgajkboanfaaDoor.B0
