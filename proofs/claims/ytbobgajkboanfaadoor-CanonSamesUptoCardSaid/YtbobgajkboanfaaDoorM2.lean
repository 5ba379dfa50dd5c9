/- The closure of canon.key over value types. -/
import Derived.Test.YtbobgajkboanfaaDoorB2
import Derived.Test.YtbobgajkboanfaaDoorShelf
import Derived.Lib.AppendIntMem
import Derived.Lib.ItoaLen
import Derived.Lib.OthersKept
import Derived.Lib.Hide
import Derived.OwnWalk
/- The closures of canon.key: what each writes behind the text. -/
namespace Go.Proofs.YtbobgajkboanfaaDoor.C1
open Go.RowKit Go.Proofs.YtbobgajkboanfaaDoorW.PrintWords Go.Proofs.YtbobgajkboanfaaDoorW.PrintLast Go.Proofs.YtbobgajkboanfaaDoor.PCanonSames
open A1 A2 A3 B0 B1 B2
set_option linter.unusedVariables false
set_option linter.unusedSimpArgs false

theorem info5 : (Tryd.prog.info? 5).map (fun i => (i.zero, i.size, i.bytes)) = some (some (.int .u8 0), 1, 1) := by kernel_rfl

/-- Block gb holds a slice of bytes of the call's own, which are these. -/
def Txt (base gb : Nat) (bs : List UInt8) (w : World) : Prop := ∃ v, w.heap[gb]? = some (.cells #[v] 76 (0, 0)) ∧ w.ownsRow base 5 1 v bs.length (Lib.byteCells bs)
/-- The frame of a writer of that text: what else is there stays, but rows of bytes. -/
structure Frm (base gb : Nat) (w w' : World) : Prop where
  below : Below base w w'
  others : Lib.OthersKept 5 (some gb) w w'
theorem Frm.refl (base gb : Nat) (w : World) : Frm base gb w w := ⟨Below.refl _ _, Lib.OthersKept.refl _ _ _⟩
theorem Frm.trans {base gb : Nat} {a b c : World} (h : Frm base gb a b) (k : Frm base gb b c) : Frm base gb a c := ⟨h.below.trans k.below, h.others.trans k.others⟩
theorem Frm.blk {base gb : Nat} {w w' : World} (h : Frm base gb w w') {g t : Nat} {cs : Array Value} (hb : w.heap[g]? = some (.cells cs t (0, 0))) (hne : g ≠ gb) (ht : t ≠ 5) : w'.heap[g]? = some (.cells cs t (0, 0)) :=
  h.others g _ hb (fun e => hne (by injection e)) (fun c fz e => ht (by injection e))
theorem Frm.alloc {base gb : Nat} {w w' : World} (h : Frm base gb w w') (hb : base ≤ w'.heap.size) (o : Obj) : Frm base gb w (w'.alloc o) := ⟨h.below.alloc hb o, h.others.alloc o⟩

theorem below_othersKept {e b : Nat} {w w' : World} (h : Lib.OthersKept e none w w') : Lib.OthersKept e (some b) w w' := fun k o hk _ ho => h k o hk (by simp) ho
theorem txt_alloc {base gb : Nat} {bs : List UInt8} {w : World} (h : Txt base gb bs w) (o : Obj) : Txt base gb bs (w.alloc o) := by
  obtain ⟨v, hb, ho⟩ := h
  exact ⟨v, blk_alloc hb o, ho.alloc o⟩

/-- Storing a new slice value into the text's block. -/
theorem txt_store {base gb : Nat} {w : World} {v v' : Value} {bs : List UInt8} (hb : w.heap[gb]? = some (.cells #[v] 76 (0, 0))) (ho : w.ownsRow base 5 1 v' bs.length (Lib.byteCells bs)) : Txt base gb bs (w.setCell ⟨gb, 0, none⟩ v') :=
  ⟨v', blk_put (cs := #[v]) hb 0 v' rfl, own_setCell ho (p := ⟨gb, 0, none⟩) (own_ne ho hb (by decide)) v'⟩

/-- One byte is appended to the text and stored: what stands behind it. -/
theorem txt_one {base gb n : Nat} {bs : List UInt8} {c : UInt8} {w w2 : World} {v v2 : Value} {o : Obj} (hbg : base ≤ gb) (hb : w.heap[gb]? = some (.cells #[v] 76 (0, 0))) (hn : bs.length = n) (hown : w.ownsRow base 5 1 v n (Lib.byteCells bs))
    (hown2 : w2.ownsRow base 5 1 v2 (n + 1) (Lib.byteCells bs ++ [Value.int .u8 c.toNat])) (hgrow : (w.alloc o).grownBy w2 v.ownBlock) :
    w2.heap[gb]? = some (.cells #[v] 76 (0, 0)) ∧ Txt base gb (bs ++ [c]) (w2.setCell ⟨gb, 0, none⟩ v2) ∧ Frm base gb w (w2.setCell ⟨gb, 0, none⟩ v2) := by
  subst hn
  have hb2 := blk_grown (blk_alloc hb o) hgrow (own_ne hown hb (by decide))
  have hsz : base ≤ w.heap.size := Nat.le_trans hbg (Nat.le_of_lt (blk_lt hb))
  refine ⟨hb2, txt_store hb2 (by rw [List.length_append, Lib.byteCells_append]; exact hown2), ?_, ?_⟩
  · exact ((Below.refl base w).alloc hsz o |>.grown hgrow (by simp; omega) (own_base hown)).setCell hbg _
  · exact ((Lib.OthersKept.refl 5 (some gb) w).alloc o |>.grown hgrow (fun g hg => by obtain ⟨cs, hc⟩ := own_typed (hown.alloc o) g hg; exact ⟨cs, _, hc⟩)).setCell _ rfl _

set_option maxHeartbeats 1600000 in
set_option maxRecDepth 100000 in
theorem key2_yes (base gb : Nat) (bs : List UInt8) (w : World) (hT : Txt base gb bs w) (hbg : base ≤ gb) (hl : bs.length ≤ 1000000000000) :
    Calls Tryd.prog 27 #[.bool true, .pointer (some ⟨gb, 0, none⟩)] w fun e w' => e = .returned (.tuple #[]) ∧ Txt base gb (bs ++ [43]) w' ∧ Frm base gb w w' := by
  obtain ⟨v, hb, hown⟩ := hT
  obtain ⟨i0, hi, hz0, hz1, hz2⟩ := info_parts info5
  have hbs : base ≤ w.heap.size := Nat.le_trans hbg (Nat.le_of_lt (blk_lt hb))
  have hc : w.cell? ⟨gb, 0, none⟩ = some v := (blk_cell hb 0).trans rfl
  have HBB := Aside0.mk hb
  have HO := Aside0.mk hown
  clear hb hown
  go_enter Tryd.func27, Tryd.ntmps27
  go_wp2_with (at_builtin; refine wpList_append_own _ rfl _ _ 76 rfl base 5 i0 (.int .u8 0) 1 1 Tryd.underlying76 hi hz0 hz1 hz2 rfl (by decide) _ _ _ rfl (HO.out.alloc _) ⟨w.heap.size, 0, none⟩ 1 1 [Value.int .u8 43] rfl rfl (by intro j u' hj; match j, hj with | 0, hj => simp at hj; subst hj; simp [Addr.add]) (by intro u' hu'; simp at hu'; subst hu'; rfl) (by unfold maxLen; omega) (by omega) (by simp; omega) ?_)
  intro v2 w2 hown2 hgrow _
  obtain ⟨hb2, hT2, hF2⟩ := txt_one (c := 43) hbg HBB.out rfl HO.out hown2 hgrow
  obtain ⟨Av, cv, rfl⟩ := own_slice hown2
  have hc2 : w2.cell? ⟨gb, 0, none⟩ = some v := (blk_cell hb2 0).trans rfl
  have hf2 := blk_frozen hb2 0
  have HT := Aside0.mk hT2
  have HF := Aside0.mk hF2
  clear hT2 hF2 hb2 hown2 hgrow hc
  go_wp2
  go_end0
  exact ⟨rfl, HT.out, HF.out⟩

theorem key2_no (gb : Nat) (w : World) : Calls Tryd.prog 27 #[.bool false, .pointer (some ⟨gb, 0, none⟩)] w fun e w' => e = .returned (.tuple #[]) ∧ w = w' := by
  go_enter Tryd.func27, Tryd.ntmps27
  go_wp2
  go_end0
  exact ⟨rfl, rfl⟩

/-- What the flag's closure writes. -/
def flagB (b : Bool) : List UInt8 := if b then [43] else []
theorem key2 (b : Bool) (base gb : Nat) (bs : List UInt8) (w : World) (hT : Txt base gb bs w) (hbg : base ≤ gb) (hl : bs.length ≤ 1000000000000) :
    Calls Tryd.prog 27 #[.bool b, .pointer (some ⟨gb, 0, none⟩)] w fun e w' => e = .returned (.tuple #[]) ∧ Txt base gb (bs ++ flagB b) w' ∧ Frm base gb w w' := by
  cases b
  · refine (key2_no gb w).mono ?_
    rintro e w' ⟨rfl, rfl⟩
    exact ⟨rfl, by simpa [flagB] using hT, Frm.refl _ _ _⟩
  · exact key2_yes base gb bs w hT hbg hl

/-- What the number's closure writes. -/
def numB (x : Int) : List UInt8 := Lib.itoa x ++ [32]
set_option maxHeartbeats 3200000 in
set_option maxRecDepth 100000 in
theorem key1 (x : Int) (x0 : -9223372036854775808 ≤ x) (x1 : x ≤ 9223372036854775807) (base gb : Nat) (bs : List UInt8) (w : World) (hT : Txt base gb bs w) (hbg : base ≤ gb) (hl : bs.length ≤ 1000000000000)
    (htab : Lib.TabBelow Tryd.prog base w "internal/strconv.uint64pow10" .u64 Lib.pow10Tab) :
    Calls Tryd.prog 25 #[.int .i64 x, .pointer (some ⟨gb, 0, none⟩)] w fun e w' => e = .returned (.tuple #[]) ∧ Txt base gb (bs ++ numB x) w' ∧ Frm base gb w w' := by
  obtain ⟨v, hb, hown⟩ := hT
  obtain ⟨i0, hi, hz0, hz1, hz2⟩ := info_parts info5
  have la := Lib.itoa_length_le x x0 x1
  have hbs : base ≤ w.heap.size := Nat.le_trans hbg (Nat.le_of_lt (blk_lt hb))
  have hc : w.cell? ⟨gb, 0, none⟩ = some v := (blk_cell hb 0).trans rfl
  have HA := Aside0.mk (Tryd.strconv_AppendInt_10 base bs.length x x0 x1 v (Lib.byteCells bs) w hown hbs (by omega) htab)
  have HBB := Aside0.mk hb
  have HO := Aside0.mk hown
  clear hb hown htab
  go_enter Tryd.func25, Tryd.ntmps25
  go_wp2_with (go_at_call 26; refine HA.out.mono ?_; rintro e w1 ⟨v1, rfl, hown1, hnx1, hok1⟩; refine Hid.out ?_)
  refine Lib.hid ?_
  have hok1' := below_othersKept (b := gb) hok1
  have hb1 : w1.heap[gb]? = some (.cells #[v] 76 (0, 0)) := hok1 gb _ HBB.out (by simp) (fun c fz e => by injection e with _ e; exact absurd e (by decide))
  obtain ⟨Av, cv, ev⟩ := own_slice hown1
  obtain ⟨n1, hn1⟩ : ∃ n1, n1 = bs.length + (Lib.itoa x).length := ⟨_, rfl⟩
  rw [← hn1] at ev hown1
  have hnb : n1 ≤ 1000000000021 := by omega
  have HN1 := Aside0.mk hn1
  clear hn1
  subst ev
  have hc1 : w1.cell? ⟨gb, 0, none⟩ = some v := (blk_cell hb1 0).trans rfl
  have hf1 := blk_frozen hb1 0
  have hsz1 : base ≤ w1.heap.size := by have := hnx1.size; omega
  have HT1 := Aside0.mk (show Txt base gb (bs ++ Lib.itoa x) (w1.setCell ⟨gb, 0, none⟩ (.slice Av n1 cv)) from txt_store hb1 (by rw [List.length_append, Lib.byteCells_append, ← HN1.out]; exact hown1))
  have HF1 := Aside0.mk (show Frm base gb w (w1.setCell ⟨gb, 0, none⟩ (.slice Av n1 cv)) from ⟨hnx1.setCell hbg _, hok1'.setCell _ rfl _⟩)
  have HB2 := Aside0.mk (blk_put (cs := #[v]) hb1 0 (.slice Av n1 cv) rfl)
  have HO2 := Aside0.mk (show (w1.setCell ⟨gb, 0, none⟩ (.slice Av n1 cv)).ownsRow base 5 1 (.slice Av n1 cv) n1 (Lib.byteCells (bs ++ Lib.itoa x)) from by rw [Lib.byteCells_append]; exact own_setCell hown1 (p := ⟨gb, 0, none⟩) (own_ne hown1 hb1 (by decide)) _)
  have hll : (bs ++ Lib.itoa x).length ≤ 1000000000021 := by rw [List.length_append]; omega
  have HLL := Aside0.mk hll
  clear hown1 hnx1 hok1 hok1' hb1 hc la hl hll
  go_wp2_with (at_builtin; refine wpList_append_own _ rfl _ _ 76 rfl base 5 i0 (.int .u8 0) 1 1 Tryd.underlying76 hi hz0 hz1 hz2 rfl (by decide) _ _ _ rfl (HO2.out.alloc _) ⟨w1.heap.size, 0, none⟩ 1 1 [Value.int .u8 32] rfl rfl (by intro j u' hj; match j, hj with | 0, hj => exact (blk_cell (B0.blk_at (by simp [World.setCell]) _) 0).trans hj) (by intro u' hu'; simp at hu'; subst hu'; rfl) (by unfold maxLen; omega) (by omega) (by simp; omega) ?_)
  intro v2 w2 hown2 hgrow _
  obtain ⟨hb2, hT2, hF2⟩ := txt_one (c := 32) hbg HB2.out (by rw [List.length_append]; exact HN1.out.symm) HO2.out hown2 hgrow
  obtain ⟨A2, c2, rfl⟩ := own_slice hown2
  have hc2 : w2.cell? ⟨gb, 0, none⟩ = some (.slice Av n1 cv) := (blk_cell hb2 0).trans rfl
  have hf2 := blk_frozen hb2 0
  have HT := Aside0.mk hT2
  have HF := Aside0.mk (HF1.out.trans hF2)
  clear hT2 hF2 hb2 hown2 hgrow hc1 hf1
  go_wp2
  go_end0
  refine ⟨rfl, ?_, HF.out⟩
  have h := HT.out
  rw [List.append_assoc] at h
  exact h

/-- The value type's closure: its number, its nullness, its heap type. -/
def valB (v : S72) : List UInt8 := numB v.f0 ++ (flagB v.f1 ++ numB v.f2)
theorem numB_len (x : Int) (x0 : -9223372036854775808 ≤ x) (x1 : x ≤ 9223372036854775807) : (numB x).length ≤ 22 := by
  have := Lib.itoa_length_le x x0 x1
  unfold numB; rw [List.length_append]; simp; omega
theorem flagB_len (b : Bool) : (flagB b).length ≤ 1 := by cases b <;> simp [flagB]
end Go.Proofs.YtbobgajkboanfaaDoor.C1
/- The closure of canon.key over value types. -/
namespace Go.Proofs.YtbobgajkboanfaaDoor.C2
open Go.RowKit Go.Proofs.YtbobgajkboanfaaDoorW.PrintWords Go.Proofs.YtbobgajkboanfaaDoorW.PrintLast Go.Proofs.YtbobgajkboanfaaDoor.PCanonSames
open A1 A2 A3 B0 B1 B2 C1
set_option linter.unusedVariables false
set_option linter.unusedSimpArgs false

/-- An int's range. -/
def inI (x : Int) : Prop := -9223372036854775808 ≤ x ∧ x ≤ 9223372036854775807
abbrev TAB (base : Nat) (w : World) : Prop := Lib.TabBelow Tryd.prog base w "internal/strconv.uint64pow10" .u64 Lib.pow10Tab

set_option maxHeartbeats 3200000 in
set_option maxRecDepth 100000 in
theorem key3 (v : S72) (r0 : inI v.f0) (r2 : inI v.f2) (base gb gn gf : Nat) (bs : List UInt8) (w : World) (hT : Txt base gb bs w) (hbg : base ≤ gb) (hl : bs.length ≤ 900000000000)
    (htab : TAB base w) (hgn : w.heap[gn]? = some (.cells #[.func (.func 25) #[] #[.pointer (some ⟨gb, 0, none⟩)]] 78 (0, 0))) (hgf : w.heap[gf]? = some (.cells #[.func (.func 27) #[] #[.pointer (some ⟨gb, 0, none⟩)]] 79 (0, 0))) :
    Calls Tryd.prog 28 #[.agg #[.int .i64 v.f0, .bool v.f1, .int .i64 v.f2], .pointer (some ⟨gn, 0, none⟩), .pointer (some ⟨gf, 0, none⟩)] w fun e w' => e = .returned (.tuple #[]) ∧ Txt base gb (bs ++ valB v) w' ∧ Frm base gb w w' := by
  have hbs : base ≤ w.heap.size := by obtain ⟨_, hb, _⟩ := hT; exact Nat.le_trans hbg (Nat.le_of_lt (blk_lt hb))
  have ng : gn ≠ gb := by obtain ⟨_, hb, _⟩ := hT; exact blk_ne hgn hb (by decide)
  have nf : gf ≠ gb := by obtain ⟨_, hb, _⟩ := hT; exact blk_ne hgf hb (by decide)
  have nx : w.heap.size ≠ gb := by obtain ⟨_, hb, _⟩ := hT; have := blk_lt hb; omega
  obtain ⟨f0, f1, f2⟩ := v
  dsimp only at r0 r2 ⊢
  have ln0 := numB_len f0 r0.1 r0.2
  have ln1 := flagB_len f1
  have HT := Aside0.mk (txt_alloc hT (.cells #[.int .i64 f0, .bool f1, .int .i64 f2] 72))
  have HF := Aside0.mk ((Frm.refl base gb w).alloc hbs (.cells #[.int .i64 f0, .bool f1, .int .i64 f2] 72))
  have HTB := Aside0.mk htab
  have HN := Aside0.mk hgn
  have HG := Aside0.mk hgf
  have HNG := Aside0.mk ng
  have HNF := Aside0.mk nf
  have HNX := Aside0.mk nx
  have HR0 := Aside0.mk r0
  have HR2 := Aside0.mk r2
  have HX := Aside0.mk (blk_new w (.cells #[.int .i64 f0, .bool f1, .int .i64 f2] 72))
  have c0 : (w.alloc (.cells #[.int .i64 f0, .bool f1, .int .i64 f2] 72)).cell? ⟨gn, 0, none⟩ = some (.func (.func 25) #[] #[.pointer (some ⟨gb, 0, none⟩)]) := (blk_cell (blk_alloc hgn _) 0).trans rfl
  clear hT htab hgn hgf ng nf nx r0 r2
  go_enter Tryd.func28, Tryd.ntmps28
  go_wp2_with (go_at_call 25; go_loud (refine (key1 f0 HR0.out.1 HR0.out.2 base gb bs _ HT.out hbg (by omega) (HTB.out.on HF.out.below)).mono ?_); rintro e w1 ⟨rfl, hT1, hF1⟩; refine Hid.out ?_)
  refine Lib.hid ?_
  have HX1 := Aside0.mk (hF1.blk HX.out HNX.out (by decide))
  have HN1 := Aside0.mk (hF1.blk (blk_alloc HN.out _) HNG.out (by decide))
  have HG1 := Aside0.mk (hF1.blk (blk_alloc HG.out _) HNF.out (by decide))
  have HT1 := Aside0.mk hT1
  have HF1 := Aside0.mk (HF.out.trans hF1)
  have x1 : w1.cell? ⟨w.heap.size, 1, none⟩ = some (.bool f1) := (blk_cell HX1.out 1).trans rfl
  have g1 : w1.cell? ⟨gf, 0, none⟩ = some (.func (.func 27) #[] #[.pointer (some ⟨gb, 0, none⟩)]) := (blk_cell HG1.out 0).trans rfl
  clear hT1 hF1 HT HF HX HN HG c0
  go_wp2_with (go_at_call 27; go_loud (refine (key2 f1 base gb _ _ HT1.out hbg (by rw [List.length_append]; omega)).mono ?_); rintro e w2 ⟨rfl, hT2, hF2⟩; refine Hid.out ?_)
  refine Lib.hid ?_
  have HX2 := Aside0.mk (hF2.blk HX1.out HNX.out (by decide))
  have HN2 := Aside0.mk (hF2.blk HN1.out HNG.out (by decide))
  have HT2 := Aside0.mk hT2
  have HF2 := Aside0.mk (HF1.out.trans hF2)
  have x2 : w2.cell? ⟨w.heap.size, 2, none⟩ = some (.int .i64 f2) := (blk_cell HX2.out 2).trans rfl
  have g2 : w2.cell? ⟨gn, 0, none⟩ = some (.func (.func 25) #[] #[.pointer (some ⟨gb, 0, none⟩)]) := (blk_cell HN2.out 0).trans rfl
  clear hT2 hF2 HT1 HF1 HX1 HN1 HG1 x1 g1
  go_wp2_with (go_at_call 25; go_loud (refine (key1 f2 HR2.out.1 HR2.out.2 base gb _ _ HT2.out hbg (by rw [List.length_append, List.length_append]; omega) (HTB.out.on HF2.out.below)).mono ?_); rintro e w3 ⟨rfl, hT3, hF3⟩; refine Hid.out ?_)
  refine Lib.hid ?_
  have HT3 := Aside0.mk hT3
  have HF3 := Aside0.mk (HF2.out.trans hF3)
  clear hT3 hF3 HT2 HF2 HX2 HN2 x2 g2
  go_wp2
  go_end0
  refine ⟨rfl, ?_, HF3.out⟩
  have h := HT3.out
  rw [List.append_assoc, List.append_assoc] at h
  exact h
end Go.Proofs.YtbobgajkboanfaaDoor.C2
