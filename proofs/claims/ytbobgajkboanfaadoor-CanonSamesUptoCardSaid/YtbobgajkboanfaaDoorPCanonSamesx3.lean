-- PRINTED BY print.sh 35421559b90ae4d0a3588c463048766b98c2df88dd9212a6774a882060cdf62d: not written by this session
import Derived.Test.YtbobgajkboanfaaDoorPCanonSamesx0
namespace Go.Proofs.YtbobgajkboanfaaDoor.PCanonSames
open Go.RowKit Go.Proofs.YtbobgajkboanfaaDoorW.PrintWords Go.Proofs.YtbobgajkboanfaaDoorW.PrintLast Go.Proofs.YtbobgajkboanfaaDoorW.PrintMore
attribute [local go_sem] max2_int min2_int max_two min_two max_three min_three max_four min_four   -- for this text's walks alone
set_option linter.unusedVariables false
set_option linter.unusedSimpArgs false

-- NOT PRINTED: function 15 (types_turned)

-- NOT PRINTED: function 9 (types_Closed)

/-! ### types_Count: function 10 -/
def types_Count.l0 : Nat → Int → List (S34) → Int → Int → Option (Int)
  | 0, _, _, _, _ => none
  | k + 1, x3, x6, x7, x8 => if x8 < x7 then (if 0 ≤ x8 then (if x8 < (x6.length : Int) then (types_Count.l0 k (wrap64 (x3 + (((rd_T34 x6 x8).f0).length : Int))) x6 x7 (wrap64 (x8 + 1))) else (none)) else (none)) else (some x3)
def types_Count.f (k : Nat) (l0 : List (S34)) : Option (Int) := types_Count.l0 k 0 l0 (l0.length : Int) 0
theorem types_Count.mono_l : ∀ k, (∀ y0 y1 y2 y3, LeO (types_Count.l0 k y0 y1 y2 y3) (types_Count.l0 (k + 1) y0 y1 y2 y3))
  | 0 => fun _ _ _ _ r h => by simp [types_Count.l0] at h
  | k + 1 => by
    have ih0 := types_Count.mono_l k
    · intro y0 y1 y2 y3
      unfold types_Count.l0
      repeat' first
      | (with_reducible exact ih0 _ _ _ _)
      | (with_reducible exact LeO.refl _)
      | (with_reducible exact LeO.none _)
      | (with_reducible refine LeO.ite ?_ ?_)
      | (with_reducible refine LeO.bind ?_ (fun _ => ?_))
      | exact ih0 _ _ _ _
      | exact LeO.none _
      | refine LeO.ite ?_ ?_
      | refine LeO.bind ?_ (fun _ => ?_)
theorem types_Count.mono : ∀ a0 k, LeO (types_Count.f k a0) (types_Count.f (k + 1) a0) := by
  intro a0 k
  have ih0 := types_Count.mono_l k
  unfold types_Count.f
  repeat' first
      | (with_reducible exact ih0 _ _ _ _)
      | (with_reducible exact LeO.refl _)
      | (with_reducible exact LeO.none _)
      | (with_reducible refine LeO.ite ?_ ?_)
      | (with_reducible refine LeO.bind ?_ (fun _ => ?_))
      | exact ih0 _ _ _ _
      | exact LeO.none _
      | refine LeO.ite ?_ ?_
      | refine LeO.bind ?_ (fun _ => ?_)
set_option maxHeartbeats 8000000 in
set_option maxRecDepth 100000 in
theorem types_Count.calls (k : Nat) (A0 : Option Addr) (c0 : Nat) (l0 : List (S34)) (r : Int) (w : World) (hr0 : Kd.C k34 w A0 l0.length l0) (hc0 : l0.length ≤ c0) (h : types_Count.f k l0 = some r) :
    Calls Tryd.prog 10 #[.slice A0 l0.length c0] w fun e w' => e = .returned (.int .i64 r) ∧ Below w.heap.size w w' := by
  have hu34 := Tryd.underlying34
  have HR0 := Aside0.mk hr0
  have HC0 := Aside0.mk hc0
  clear hr0 hc0
  have HB := Aside0.mk (Below.refl w.heap.size w)
  have H : (types_Count.l0 k 0 l0 (l0.length : Int) 0) = some r := h
  clear h
  have H' := Aside0.mk H
  clear H
  go_enter Tryd.func10, Tryd.ntmps10
  go_wp2
  go_loopg [3, 8] k (fun kq v3 v8 w' => ∃ (x3_1 : Int) (x8_1 : Int), v3 = .int .i64 x3_1 ∧ v8 = .int .i64 x8_1 ∧ Aside0 (types_Count.l0 kq x3_1 l0 (l0.length : Int) x8_1 = some r) ∧ Aside0 (kq ≤ k) ∧ Aside0 (Below w.heap.size w w'))
  case atStart => exact ⟨(0), (0), (by first | rfl | (simp; done) | (simp [*]; done)), (by first | rfl | (simp; done) | (simp [*]; done)), H', ⟨Nat.le_refl _⟩, ⟨by repeat (first | (with_reducible first | exact HB.out | apply below_alloc | apply pw_below_drewN | apply below_drew1) | exact HB.out)⟩⟩
  case round =>
    clear H'
    try clear c1
    obtain ⟨x3_1, x8_1, rfl, rfl, HA, HK1, HB⟩ := hrel
    cases gk with
    | zero => exact absurd HA.out (by simp [types_Count.l0])
    | succ k1 =>
      have H := HA.out
      clear HA
      simp only [types_Count.l0] at H
      by_cases c2 : x8_1 < (l0.length : Int)
      · rw [if_pos c2] at H
        have c2b0 : decide (x8_1 < (l0.length : Int)) = true := decide_eq_true c2
        clear c2
        by_cases c3 : 0 ≤ x8_1
        · rw [if_pos c3] at H
          have c3b0 : decide (0 ≤ x8_1) = true := decide_eq_true c3
          clear c3
          by_cases c4 : x8_1 < (l0.length : Int)
          · rw [if_pos c4] at H
            have c4b0 : decide (x8_1 < (l0.length : Int)) = true := decide_eq_true c4
            clear c4
            have H' := Aside0.mk H
            clear H
            have p101 : 0 ≤ (x8_1 : Int) := of_decide_eq_true (by first | (with_reducible assumption) | assumption)
            have q101 : x8_1 < (l0.length : Int) := of_decide_eq_true (by first | (with_reducible assumption) | assumption)
            obtain ⟨ad101, A101_0, c101_0, e101, hx101_0, hx101_1, hl101_0, hi101_0⟩ := at_T34 HR0.out x8_1 p101 q101
            cases e101
            replace hx101_0 := (HB.out.cell (World.block_lt_of_cell? w _ hx101_0)).trans hx101_0
            replace hx101_1 := (HB.out.cell (World.block_lt_of_cell? w _ hx101_1)).trans hx101_1
            have HR101_0 := Aside0.mk hi101_0
            have HC101_0 := Aside0.mk hl101_0
            clear hi101_0 hl101_0
            replace p101 := eq_true p101
            replace q101 := eq_true q101
            go_wp2_with (first | ((with_reducible refine gate_dst (N := 5) rfl ?_); refine box_event ?hg (N := 5) ?hd (cs := #[.slice none 0 0, .bool false]) (t := 34) ?hr ?_; (case hd => rfl); (case hg => rfl); (case hr => first | (go_simp; done) | (go_simp; rfl)); intro gb102 hg w5 hbox hb; have n0_ := Aside0.mk (below_step (by repeat (first | (with_reducible first | exact HB.out | apply below_alloc | apply pw_below_drewN | apply below_drew1) | exact HB.out)) hb); have n1_ := Aside0.mk (hbox); have n2_ := Aside0.mk ((by rw [hg]; exact (below_size (by repeat (first | (with_reducible first | exact HB.out | apply below_alloc | apply pw_below_drewN | apply below_drew1) | exact HB.out))) : w.heap.size ≤ gb102)); have n3_ := Aside0.mk ((by rw [hg]; exact (below_size (by repeat (first | (with_reducible first | exact HB.out | apply below_alloc | apply pw_below_drewN | apply below_drew1) | exact HB.out))) : w.heap.size ≤ gb102)); clear HB; have HB := n0_; have BK102 := n1_; have GW102 := n2_; have GE102 := n3_; clear n0_ n1_ n2_ n3_; clear hb hbox hg; have hcz6_0 : w5.cell? ⟨gb102, 0, none⟩ = some (.slice none 0 0) := (blk_cell BK102.out 0).trans rfl; have hcz6_1 : w5.cell? ⟨gb102, 1, none⟩ = some (.bool false) := (blk_cell BK102.out 1).trans rfl; have hfz6_0 := blk_frozen BK102.out 0; have hfz6_1 := blk_frozen BK102.out 1))
            go_roundg k1
            case measure => have := HK1.out; omega
            case rel => exact ⟨(wrap64 (x3_1 + (((rd_T34 l0 x8_1).f0).length : Int))), (wrap64 (x8_1 + 1)), (by first | rfl | (simp; done) | (simp [*]; done)), (by first | rfl | (simp; done) | (simp [*]; done)), H', ⟨by have := HK1.out; omega⟩, ⟨by repeat (first | (with_reducible first | exact HB.out | apply below_alloc | apply pw_below_drewN | apply below_drew1 | refine below_set ?_ GE102.out) | exact HB.out)⟩⟩
          · rw [if_neg c4] at H
            exact absurd H (by simp)
        · rw [if_neg c3] at H
          exact absurd H (by simp)
      · rw [if_neg c2] at H
        have c2b0 : decide (x8_1 < (l0.length : Int)) = false := decide_eq_false c2
        clear c2
        obtain rfl := Option.some.inj H
        go_wp2
        go_ret
        exact ⟨by first | rfl | (simp [errW_none, errW_some] <;> rfl) | (simp [*, errW_none, errW_some] <;> rfl), by repeat (first | (with_reducible first | exact HB.out | apply below_alloc | apply pw_below_drewN | apply below_drew1) | exact HB.out)⟩

-- NOT PRINTED: function 11 (canon_New)

-- NOT PRINTED: function 7 (canon_One)

-- NOT PRINTED: function 4 (canon_Same)

/-! ### ratchetlaw06_own: function 5 -/
mutual
def ratchetlaw06_own.l0 : Nat → List (S34) → List (S34) → Int → Option ((List (S34)))
  | 0, _, _, _ => none
  | k + 1, x0, x3, x4 => if x4 < (x0.length : Int) then (if 0 ≤ x4 then (ratchetlaw06_own.l1 k x0 x3 x4 0 ([] : List (S41)) ((rd_T34 x0 x4).f1)) else (none)) else (some x3)
def ratchetlaw06_own.l1 : Nat → List (S34) → List (S34) → Int → Int → List (S41) → Bool → Option ((List (S34)))
  | 0, _, _, _, _, _, _ => none
  | k + 1, x0, x3, x4, x6, x105000, x105001 => if 0 ≤ x4 then (if x4 < (x0.length : Int) then (if x6 < (((rd_T34 x0 x4).f0).length : Int) then (if 0 ≤ x6 then (if ([] : List Int).length + ((rd_T41 ((rd_T34 x0 x4).f0) x6).f1).length < 17592186044416 then (if ([] : List (S72)).length + ((rd_T41 ((rd_T34 x0 x4).f0) x6).f2.f1).length < 5864062014805 then (if ([] : List (S72)).length + ((rd_T41 ((rd_T34 x0 x4).f0) x6).f2.f2).length < 5864062014805 then (if ([] : List (S75)).length + ((rd_T41 ((rd_T34 x0 x4).f0) x6).f2.f3).length < 4398046511104 then (if x105000.length < 1256584717458 then (ratchetlaw06_own.l1 k x0 x3 x4 (wrap64 (x6 + 1)) (x105000 ++ [(⟨(rd_T41 ((rd_T34 x0 x4).f0) x6).f0, (([] : List Int) ++ ((rd_T41 ((rd_T34 x0 x4).f0) x6).f1)), (⟨(rd_T41 ((rd_T34 x0 x4).f0) x6).f2.f0, (([] : List (S72)) ++ ((rd_T41 ((rd_T34 x0 x4).f0) x6).f2.f1)), (([] : List (S72)) ++ ((rd_T41 ((rd_T34 x0 x4).f0) x6).f2.f2)), (([] : List (S75)) ++ ((rd_T41 ((rd_T34 x0 x4).f0) x6).f2.f3))⟩ : S39)⟩ : S41)]) x105001) else (none)) else (none)) else (none)) else (none)) else (none)) else (none)) else (if x3.length < 4398046511104 then (ratchetlaw06_own.l0 k x0 (x3 ++ [(⟨x105000, x105001⟩ : S34)]) (wrap64 (x4 + 1))) else (none))) else (none)) else (none)
end
def ratchetlaw06_own.f (k : Nat) (l0 : List (S34)) : Option ((List (S34))) := ratchetlaw06_own.l0 k l0 ([] : List (S34)) 0
theorem ratchetlaw06_own.mono_l : ∀ k, (∀ y0 y1 y2, LeO (ratchetlaw06_own.l0 k y0 y1 y2) (ratchetlaw06_own.l0 (k + 1) y0 y1 y2)) ∧ (∀ y0 y1 y2 y3 y4 y5, LeO (ratchetlaw06_own.l1 k y0 y1 y2 y3 y4 y5) (ratchetlaw06_own.l1 (k + 1) y0 y1 y2 y3 y4 y5))
  | 0 => ⟨fun _ _ _ r h => by simp [ratchetlaw06_own.l0] at h, fun _ _ _ _ _ _ r h => by simp [ratchetlaw06_own.l1] at h⟩
  | k + 1 => by
    obtain ⟨ih0, ih1⟩ := ratchetlaw06_own.mono_l k
    refine ⟨?_, ?_⟩
    · intro y0 y1 y2
      unfold ratchetlaw06_own.l0
      repeat' first
      | (with_reducible exact ih0 _ _ _)
      | (with_reducible exact ih1 _ _ _ _ _ _)
      | (with_reducible exact LeO.refl _)
      | (with_reducible exact LeO.none _)
      | (with_reducible refine LeO.ite ?_ ?_)
      | (with_reducible refine LeO.bind ?_ (fun _ => ?_))
      | exact ih0 _ _ _
      | exact ih1 _ _ _ _ _ _
      | exact LeO.none _
      | refine LeO.ite ?_ ?_
      | refine LeO.bind ?_ (fun _ => ?_)
    · intro y0 y1 y2 y3 y4 y5
      unfold ratchetlaw06_own.l1
      repeat' first
      | (with_reducible exact ih0 _ _ _)
      | (with_reducible exact ih1 _ _ _ _ _ _)
      | (with_reducible exact LeO.refl _)
      | (with_reducible exact LeO.none _)
      | (with_reducible refine LeO.ite ?_ ?_)
      | (with_reducible refine LeO.bind ?_ (fun _ => ?_))
      | exact ih0 _ _ _
      | exact ih1 _ _ _ _ _ _
      | exact LeO.none _
      | refine LeO.ite ?_ ?_
      | refine LeO.bind ?_ (fun _ => ?_)
theorem ratchetlaw06_own.mono : ∀ a0 k, LeO (ratchetlaw06_own.f k a0) (ratchetlaw06_own.f (k + 1) a0) := by
  intro a0 k
  obtain ⟨ih0, ih1⟩ := ratchetlaw06_own.mono_l k
  unfold ratchetlaw06_own.f
  repeat' first
      | (with_reducible exact ih0 _ _ _)
      | (with_reducible exact ih1 _ _ _ _ _ _)
      | (with_reducible exact LeO.refl _)
      | (with_reducible exact LeO.none _)
      | (with_reducible refine LeO.ite ?_ ?_)
      | (with_reducible refine LeO.bind ?_ (fun _ => ?_))
      | exact ih0 _ _ _
      | exact ih1 _ _ _ _ _ _
      | exact LeO.none _
      | refine LeO.ite ?_ ?_
      | refine LeO.bind ?_ (fun _ => ?_)
set_option maxHeartbeats 8000000 in
set_option maxRecDepth 100000 in
theorem ratchetlaw06_own.calls (k : Nat) (A0 : Option Addr) (c0 : Nat) (l0 : List (S34)) (r : List (S34)) (w : World) (hr0 : Kd.C k34 w A0 l0.length l0) (hc0 : l0.length ≤ c0) (h : ratchetlaw06_own.f k l0 = some r) :
    Calls Tryd.prog 5 #[.slice A0 l0.length c0] w fun e w' => ∃ v0_ : Value, e = .returned (v0_) ∧ Kd.R k34 34 w' w.heap.size (fun _ => True) v0_ r ∧ Below w.heap.size w w' := by
  have hu34 := Tryd.underlying34
  have hu41 := Tryd.underlying41
  have HR0 := Aside0.mk hr0
  have HC0 := Aside0.mk hc0
  clear hr0 hc0
  have HB := Aside0.mk (Below.refl w.heap.size w)
  have H : (ratchetlaw06_own.l0 k l0 ([] : List (S34)) 0) = some r := h
  clear h
  have H' := Aside0.mk H
  clear H
  go_enter Tryd.func5, Tryd.ntmps5
  go_wp2
  go_loopg [3, 4] k (fun kq v3 v4 w' => ∃ (x3_1 : List (S34)) (x4_1 : Int), v4 = .int .i64 x4_1 ∧ Aside0 (ratchetlaw06_own.l0 kq l0 x3_1 x4_1 = some r) ∧ Aside0 (kq ≤ k) ∧ Aside0 (Kd.R k34 34 w' w.heap.size (fun _ => True) v3 x3_1) ∧ Aside0 (Below w.heap.size w w'))
  case atStart => exact ⟨(([] : List (S34))), (0), (by first | rfl | (simp; done) | (simp [*]; done)), H', ⟨Nat.le_refl _⟩, ⟨by first | exact Kd.R_nil _ _ _ _ _ | exact Kd.N_nil _ _ _ _ _ | exact Kd.V_nil _ _ _ _ _ | exact Kd.Q_nil _ _ _ _ _ | exact Kd.S_nil _ _ _ _ _⟩, ⟨by repeat (first | (with_reducible first | exact HB.out | apply below_alloc | apply pw_below_drewN | apply below_drew1) | exact HB.out)⟩⟩
  case round =>
    clear H'
    obtain ⟨x3_1, x4_1, rfl, HA, HK1, HO_3, HB⟩ := hrel
    cases gk with
    | zero => exact absurd HA.out (by simp [ratchetlaw06_own.l0])
    | succ k1 =>
      have H := HA.out
      clear HA
      simp only [ratchetlaw06_own.l0] at H
      by_cases c2 : x4_1 < (l0.length : Int)
      · rw [if_pos c2] at H
        have c2b0 : decide (x4_1 < (l0.length : Int)) = true := decide_eq_true c2
        clear c2
        by_cases c3 : 0 ≤ x4_1
        · rw [if_pos c3] at H
          have c3b0 : decide (0 ≤ x4_1) = true := decide_eq_true c3
          clear c3
          have H' := Aside0.mk H
          clear H
          have p103 : 0 ≤ (x4_1 : Int) := of_decide_eq_true (by first | (with_reducible assumption) | assumption)
          have q103 : x4_1 < (l0.length : Int) := of_decide_eq_true (by first | (with_reducible assumption) | assumption)
          obtain ⟨ad103, A103_0, c103_0, e103, hx103_0, hx103_1, hl103_0, hi103_0⟩ := at_T34 HR0.out x4_1 p103 q103
          cases e103
          replace hx103_0 := (HB.out.cell (World.block_lt_of_cell? w _ hx103_0)).trans hx103_0
          replace hx103_1 := (HB.out.cell (World.block_lt_of_cell? w _ hx103_1)).trans hx103_1
          have HR103_0 := Aside0.mk hi103_0
          have HC103_0 := Aside0.mk hl103_0
          clear hi103_0 hl103_0
          replace p103 := eq_true p103
          replace q103 := eq_true q103
          go_wp2_with (first | ((with_reducible refine gate_dst (N := 5) rfl ?_); refine box_event ?hg (N := 5) ?hd (cs := #[.slice none 0 0, .bool false]) (t := 34) ?hr ?_; (case hd => rfl); (case hg => rfl); (case hr => first | (go_simp; done) | (go_simp; rfl)); intro gb104 hg w4 hbox hb; have n0_ := Aside0.mk (Kd.R_below (Kd.R_elderB (by (with_reducible repeat (first | apply Kd.R_alloc | apply Kd.R_drewN | apply Kd.R_drew)); exact HO_3.out) gb104 (Nat.le_of_eq hg.symm)) hb); have n1_ := Aside0.mk (below_step (by repeat (first | (with_reducible first | exact HB.out | apply below_alloc | apply pw_below_drewN | apply below_drew1) | exact HB.out)) hb); have n2_ := Aside0.mk (hbox); have n3_ := Aside0.mk ((by rw [hg]; exact (below_size (by repeat (first | (with_reducible first | exact HB.out | apply below_alloc | apply pw_below_drewN | apply below_drew1) | exact HB.out))) : w.heap.size ≤ gb104)); have n4_ := Aside0.mk ((by rw [hg]; exact (below_size (by repeat (first | (with_reducible first | exact HB.out | apply below_alloc | apply pw_below_drewN | apply below_drew1) | exact HB.out))) : w.heap.size ≤ gb104)); clear HO_3; clear HB; have HO_3 := n0_; have HB := n1_; have BK104 := n2_; have GW104 := n3_; have GE104 := n4_; clear n0_ n1_ n2_ n3_ n4_; clear hb hbox hg; have hcz5_0 : w4.cell? ⟨gb104, 0, none⟩ = some (.slice none 0 0) := (blk_cell BK104.out 0).trans rfl; have hcz5_1 : w4.cell? ⟨gb104, 1, none⟩ = some (.bool false) := (blk_cell BK104.out 1).trans rfl; have hfz5_0 := blk_frozen BK104.out 0; have hfz5_1 := blk_frozen BK104.out 1))
          go_loopg [6] k1 (fun kq v6 w' => ∃ (x6_2 : Int) (x105000_2 : List (S41)) (u105000 : Value), v6 = .int .i64 x6_2 ∧ Aside0 (ratchetlaw06_own.l1 kq l0 x3_1 x4_1 x6_2 x105000_2 ((rd_T34 l0 x4_1).f1) = some r) ∧ Aside0 (kq ≤ k1) ∧ Aside0 (Kd.R k34 34 w' w.heap.size (fun k_ => some k_ ≠ (u105000 : Value).ownBlock ∧ k_ ≠ gb104) u3 x3_1) ∧ Aside0 (Kd.S k41 41 w' w.heap.size (fun _ => True) u105000 x105000_2) ∧ Aside0 (w'.heap[gb104]? = some (.cells #[u105000, .bool ((rd_T34 l0 x4_1).f1)] 34 (0, 0))) ∧ Aside0 (Below w.heap.size w w'))
          case atStart => exact ⟨(0), (([] : List (S41))), (.slice none 0 0), (by first | rfl | (simp; done) | (simp [*]; done)), H', ⟨Nat.le_refl _⟩, ⟨by (with_reducible repeat (first | apply Kd.R_alloc | apply Kd.R_drewN | apply Kd.R_drew)); exact Kd.R_mono (Kd.R_far (p := ⟨gb104, 1, none⟩) (Kd.R_far (p := ⟨gb104, 0, none⟩) (Kd.R_mono HO_3.out (fun k_ hk => (⟨hk, hk.2⟩ : _ ∧ k_ ≠ gb104))) (fun _ hk => hk.2) (.slice none 0 0)) (fun _ hk => hk.2) (.bool ((rd_T34 l0 x4_1).f1))) (fun _ hk => ⟨(by simp [Value.ownBlock]), hk.1.2⟩)⟩, ⟨by first | exact Kd.S_nil _ _ _ _ _ | exact Kd.N_nil _ _ _ _ _ | exact Kd.V_nil _ _ _ _ _ | exact Kd.Q_nil _ _ _ _ _ | exact Kd.R_nil _ _ _ _ _⟩, ⟨by (with_reducible repeat (first | refine blk_drewN ?_ _ | refine blk_drew ?_ | refine blk_alloc ?_ _)); refine blk_put (cs := #[.slice none 0 0, .bool false]) ?_ 1 _ rfl; (with_reducible repeat (first | refine blk_drewN ?_ _ | refine blk_drew ?_ | refine blk_alloc ?_ _)); refine blk_put (cs := #[.slice none 0 0, .bool false]) ?_ 0 _ rfl; (with_reducible repeat (first | refine blk_drewN ?_ _ | refine blk_drew ?_ | refine blk_alloc ?_ _)); exact BK104.out⟩, ⟨by repeat (first | (with_reducible first | exact HB.out | apply below_alloc | apply pw_below_drewN | apply below_drew1 | refine below_set ?_ GE104.out) | exact HB.out)⟩⟩
          case round =>
            clear H'
            try clear c1
            try clear p1
            try clear q1
            try clear hx1
            try clear c2
            try clear c2b0
            try clear p2
            try clear c3
            try clear c3b0
            try clear c5
            try clear hcz5_0
            try clear hcz5_1
            try clear hfz5_0
            try clear hfz5_1
            try clear hx103_0
            try clear hx103_1
            try clear p103
            try clear q103
            obtain ⟨x6_2, x105000_2, u105000, rfl, HA, HK2, HO_3, HO_105000, BK104, HB⟩ := hrel
            cases gk with
            | zero => exact absurd HA.out (by simp [ratchetlaw06_own.l1])
            | succ k2 =>
              have H := HA.out
              clear HA
              simp only [ratchetlaw06_own.l1] at H
              by_cases c6 : 0 ≤ x4_1
              · rw [if_pos c6] at H
                have c6b0 : decide (0 ≤ x4_1) = true := decide_eq_true c6
                clear c6
                by_cases c7 : x4_1 < (l0.length : Int)
                · rw [if_pos c7] at H
                  have c7b0 : decide (x4_1 < (l0.length : Int)) = true := decide_eq_true c7
                  clear c7
                  by_cases c8 : x6_2 < (((rd_T34 l0 x4_1).f0).length : Int)
                  · rw [if_pos c8] at H
                    have c8b0 : decide (x6_2 < (((rd_T34 l0 x4_1).f0).length : Int)) = true := decide_eq_true c8
                    clear c8
                    by_cases c9 : 0 ≤ x6_2
                    · rw [if_pos c9] at H
                      have c9b0 : decide (0 ≤ x6_2) = true := decide_eq_true c9
                      clear c9
                      by_cases c10 : ([] : List Int).length + ((rd_T41 ((rd_T34 l0 x4_1).f0) x6_2).f1).length < 17592186044416
                      · rw [if_pos c10] at H
                        have LMc10 := Aside0.mk c10
                        clear c10
                        obtain ⟨y110, hy110⟩ : ∃ y_ : List Int, y_ = (([] : List Int) ++ ((rd_T41 ((rd_T34 l0 x4_1).f0) x6_2).f1)) := ⟨_, rfl⟩
                        replace H : (if ([] : List (S72)).length + ((rd_T41 ((rd_T34 l0 x4_1).f0) x6_2).f2.f1).length < 5864062014805 then (if ([] : List (S72)).length + ((rd_T41 ((rd_T34 l0 x4_1).f0) x6_2).f2.f2).length < 5864062014805 then (if ([] : List (S75)).length + ((rd_T41 ((rd_T34 l0 x4_1).f0) x6_2).f2.f3).length < 4398046511104 then (if x105000_2.length < 1256584717458 then (ratchetlaw06_own.l1 k2 l0 x3_1 x4_1 (wrap64 (x6_2 + 1)) (x105000_2 ++ [(⟨(rd_T41 ((rd_T34 l0 x4_1).f0) x6_2).f0, y110, (⟨(rd_T41 ((rd_T34 l0 x4_1).f0) x6_2).f2.f0, (([] : List (S72)) ++ ((rd_T41 ((rd_T34 l0 x4_1).f0) x6_2).f2.f1)), (([] : List (S72)) ++ ((rd_T41 ((rd_T34 l0 x4_1).f0) x6_2).f2.f2)), (([] : List (S75)) ++ ((rd_T41 ((rd_T34 l0 x4_1).f0) x6_2).f2.f3))⟩ : S39)⟩ : S41)]) ((rd_T34 l0 x4_1).f1)) else (none)) else (none)) else (none)) else (none)) = some r := by first | (rw [hy110]; with_reducible exact H) | (have H2_ := (Option.bind_some _ _).symm.trans H; rw [hy110]; with_reducible exact H2_) | (have H2_ := (Option.bind_some _ _).symm.trans H; with_reducible exact H2_) | with_reducible exact H | (rw [hy110]; exact H) | exact H
                        have Ny110 := Aside0.mk hy110
                        clear hy110
                        by_cases c11 : ([] : List (S72)).length + ((rd_T41 ((rd_T34 l0 x4_1).f0) x6_2).f2.f1).length < 5864062014805
                        · rw [if_pos c11] at H
                          have LMc11 := Aside0.mk c11
                          clear c11
                          obtain ⟨y113, hy113⟩ : ∃ y_ : List (S72), y_ = (([] : List (S72)) ++ ((rd_T41 ((rd_T34 l0 x4_1).f0) x6_2).f2.f1)) := ⟨_, rfl⟩
                          replace H : (if ([] : List (S72)).length + ((rd_T41 ((rd_T34 l0 x4_1).f0) x6_2).f2.f2).length < 5864062014805 then (if ([] : List (S75)).length + ((rd_T41 ((rd_T34 l0 x4_1).f0) x6_2).f2.f3).length < 4398046511104 then (if x105000_2.length < 1256584717458 then (ratchetlaw06_own.l1 k2 l0 x3_1 x4_1 (wrap64 (x6_2 + 1)) (x105000_2 ++ [(⟨(rd_T41 ((rd_T34 l0 x4_1).f0) x6_2).f0, y110, (⟨(rd_T41 ((rd_T34 l0 x4_1).f0) x6_2).f2.f0, y113, (([] : List (S72)) ++ ((rd_T41 ((rd_T34 l0 x4_1).f0) x6_2).f2.f2)), (([] : List (S75)) ++ ((rd_T41 ((rd_T34 l0 x4_1).f0) x6_2).f2.f3))⟩ : S39)⟩ : S41)]) ((rd_T34 l0 x4_1).f1)) else (none)) else (none)) else (none)) = some r := by first | (rw [hy113]; with_reducible exact H) | (have H2_ := (Option.bind_some _ _).symm.trans H; rw [hy113]; with_reducible exact H2_) | (have H2_ := (Option.bind_some _ _).symm.trans H; with_reducible exact H2_) | with_reducible exact H | (rw [hy113]; exact H) | exact H
                          have Ny113 := Aside0.mk hy113
                          clear hy113
                          by_cases c12 : ([] : List (S72)).length + ((rd_T41 ((rd_T34 l0 x4_1).f0) x6_2).f2.f2).length < 5864062014805
                          · rw [if_pos c12] at H
                            have LMc12 := Aside0.mk c12
                            clear c12
                            obtain ⟨y116, hy116⟩ : ∃ y_ : List (S72), y_ = (([] : List (S72)) ++ ((rd_T41 ((rd_T34 l0 x4_1).f0) x6_2).f2.f2)) := ⟨_, rfl⟩
                            replace H : (if ([] : List (S75)).length + ((rd_T41 ((rd_T34 l0 x4_1).f0) x6_2).f2.f3).length < 4398046511104 then (if x105000_2.length < 1256584717458 then (ratchetlaw06_own.l1 k2 l0 x3_1 x4_1 (wrap64 (x6_2 + 1)) (x105000_2 ++ [(⟨(rd_T41 ((rd_T34 l0 x4_1).f0) x6_2).f0, y110, (⟨(rd_T41 ((rd_T34 l0 x4_1).f0) x6_2).f2.f0, y113, y116, (([] : List (S75)) ++ ((rd_T41 ((rd_T34 l0 x4_1).f0) x6_2).f2.f3))⟩ : S39)⟩ : S41)]) ((rd_T34 l0 x4_1).f1)) else (none)) else (none)) = some r := by first | (rw [hy116]; with_reducible exact H) | (have H2_ := (Option.bind_some _ _).symm.trans H; rw [hy116]; with_reducible exact H2_) | (have H2_ := (Option.bind_some _ _).symm.trans H; with_reducible exact H2_) | with_reducible exact H | (rw [hy116]; exact H) | exact H
                            have Ny116 := Aside0.mk hy116
                            clear hy116
                            by_cases c13 : ([] : List (S75)).length + ((rd_T41 ((rd_T34 l0 x4_1).f0) x6_2).f2.f3).length < 4398046511104
                            · rw [if_pos c13] at H
                              have LMc13 := Aside0.mk c13
                              clear c13
                              obtain ⟨y119, hy119⟩ : ∃ y_ : List (S75), y_ = (([] : List (S75)) ++ ((rd_T41 ((rd_T34 l0 x4_1).f0) x6_2).f2.f3)) := ⟨_, rfl⟩
                              replace H : (if x105000_2.length < 1256584717458 then (ratchetlaw06_own.l1 k2 l0 x3_1 x4_1 (wrap64 (x6_2 + 1)) (x105000_2 ++ [(⟨(rd_T41 ((rd_T34 l0 x4_1).f0) x6_2).f0, y110, (⟨(rd_T41 ((rd_T34 l0 x4_1).f0) x6_2).f2.f0, y113, y116, y119⟩ : S39)⟩ : S41)]) ((rd_T34 l0 x4_1).f1)) else (none)) = some r := by first | (rw [hy119]; with_reducible exact H) | (have H2_ := (Option.bind_some _ _).symm.trans H; rw [hy119]; with_reducible exact H2_) | (have H2_ := (Option.bind_some _ _).symm.trans H; with_reducible exact H2_) | with_reducible exact H | (rw [hy119]; exact H) | exact H
                              have Ny119 := Aside0.mk hy119
                              clear hy119
                              by_cases c14 : x105000_2.length < 1256584717458
                              · rw [if_pos c14] at H
                                have LMc14 := Aside0.mk c14
                                clear c14
                                obtain ⟨y122, hy122⟩ : ∃ y_ : List (S41), y_ = (x105000_2 ++ [(⟨(rd_T41 ((rd_T34 l0 x4_1).f0) x6_2).f0, y110, (⟨(rd_T41 ((rd_T34 l0 x4_1).f0) x6_2).f2.f0, y113, y116, y119⟩ : S39)⟩ : S41)]) := ⟨_, rfl⟩
                                replace H : (ratchetlaw06_own.l1 k2 l0 x3_1 x4_1 (wrap64 (x6_2 + 1)) y122 ((rd_T34 l0 x4_1).f1)) = some r := by first | (rw [hy122]; with_reducible exact H) | (have H2_ := (Option.bind_some _ _).symm.trans H; rw [hy122]; with_reducible exact H2_) | (have H2_ := (Option.bind_some _ _).symm.trans H; with_reducible exact H2_) | with_reducible exact H | (rw [hy122]; exact H) | exact H
                                have Ny122 := Aside0.mk hy122
                                clear hy122
                                have H' := Aside0.mk H
                                clear H
                                have p105 : 0 ≤ (x4_1 : Int) := of_decide_eq_true (by first | (with_reducible assumption) | assumption)
                                have q105 : x4_1 < (l0.length : Int) := of_decide_eq_true (by first | (with_reducible assumption) | assumption)
                                obtain ⟨ad105, A105_0, c105_0, e105, hx105_0, hx105_1, hl105_0, hi105_0⟩ := at_T34 HR0.out x4_1 p105 q105
                                obtain rfl : ad103 = ad105 := (by injection e105)
                                replace hx105_0 := (HB.out.cell (World.block_lt_of_cell? w _ hx105_0)).trans hx105_0
                                replace hx105_1 := (HB.out.cell (World.block_lt_of_cell? w _ hx105_1)).trans hx105_1
                                have HR105_0 := Aside0.mk hi105_0
                                have HC105_0 := Aside0.mk hl105_0
                                clear hi105_0 hl105_0
                                replace p105 := eq_true p105
                                replace q105 := eq_true q105
                                have p106 : 0 ≤ (x4_1 : Int) := of_decide_eq_true (by first | (with_reducible assumption) | assumption)
                                have q106 : x4_1 < (l0.length : Int) := of_decide_eq_true (by first | (with_reducible assumption) | assumption)
                                obtain ⟨ad106, A106_0, c106_0, e106, hx106_0, hx106_1, hl106_0, hi106_0⟩ := at_T34 HR0.out x4_1 p106 q106
                                obtain rfl : ad103 = ad106 := (by injection e106)
                                replace hx106_0 := (HB.out.cell (World.block_lt_of_cell? w _ hx106_0)).trans hx106_0
                                replace hx106_1 := (HB.out.cell (World.block_lt_of_cell? w _ hx106_1)).trans hx106_1
                                have HR106_0 := Aside0.mk hi106_0
                                have HC106_0 := Aside0.mk hl106_0
                                clear hi106_0 hl106_0
                                replace p106 := eq_true p106
                                replace q106 := eq_true q106
                                have ea_ := Option.some.inj (hx105_0.symm.trans hx106_0)
                                injection ea_ with ea_ en_ ec_
                                subst ea_
                                subst ec_
                                clear en_
                                have p107 : 0 ≤ (x6_2 : Int) := of_decide_eq_true (by first | (with_reducible assumption) | assumption)
                                have q107 : x6_2 < (((rd_T34 l0 x4_1).f0).length : Int) := of_decide_eq_true (by first | (with_reducible assumption) | assumption)
                                obtain ⟨ad107, A107_1, c107_1, A107_3, c107_3, A107_4, c107_4, A107_5, c107_5, e107, hx107_0, hx107_1, hx107_2, hx107_3, hx107_4, hx107_5, hl107_1, hi107_1, hl107_3, hi107_3, hl107_4, hi107_4, hl107_5, hi107_5⟩ := at_T41 HR106_0.out x6_2 p107 q107
                                cases e107
                                replace hx107_0 := (HB.out.cell (World.block_lt_of_cell? w _ hx107_0)).trans hx107_0
                                replace hx107_1 := (HB.out.cell (World.block_lt_of_cell? w _ hx107_1)).trans hx107_1
                                replace hx107_2 := (HB.out.cell (World.block_lt_of_cell? w _ hx107_2)).trans hx107_2
                                replace hx107_3 := (HB.out.cell (World.block_lt_of_cell? w _ hx107_3)).trans hx107_3
                                replace hx107_4 := (HB.out.cell (World.block_lt_of_cell? w _ hx107_4)).trans hx107_4
                                replace hx107_5 := (HB.out.cell (World.block_lt_of_cell? w _ hx107_5)).trans hx107_5
                                have HR107_1 := Aside0.mk hi107_1
                                have HC107_1 := Aside0.mk hl107_1
                                clear hi107_1 hl107_1
                                have HR107_3 := Aside0.mk hi107_3
                                have HC107_3 := Aside0.mk hl107_3
                                clear hi107_3 hl107_3
                                have HR107_4 := Aside0.mk hi107_4
                                have HC107_4 := Aside0.mk hl107_4
                                clear hi107_4 hl107_4
                                have HR107_5 := Aside0.mk hi107_5
                                have HC107_5 := Aside0.mk hl107_5
                                clear hi107_5 hl107_5
                                replace p107 := eq_true p107
                                replace q107 := eq_true q107
                                go_wp2_with (first | ((with_reducible refine gate_dst (N := 7) rfl ?_); refine box_event ?hg (N := 7) ?hd (cs := #[.bool false, .slice none 0 0, .int .i64 0, .slice none 0 0, .slice none 0 0, .slice none 0 0]) (t := 41) ?hr ?_; (case hd => rfl); (case hg => rfl); (case hr => first | (go_simp; done) | (go_simp; rfl)); intro gb108 hg w15 hbox hb; have n0_ := Aside0.mk (Kd.R_below (Kd.R_elderB (by (with_reducible repeat (first | apply Kd.R_alloc | apply Kd.R_drewN | apply Kd.R_drew)); exact HO_3.out) gb108 (Nat.le_of_eq hg.symm)) hb); have n1_ := Aside0.mk (Kd.S_below (Kd.S_elderB (by (with_reducible repeat (first | apply Kd.S_alloc | apply Kd.S_drewN | apply Kd.S_drew)); exact HO_105000.out) gb108 (Nat.le_of_eq hg.symm)) hb); have n2_ := Aside0.mk (blk_below (g := gb104) (o := .cells #[u105000, .bool ((rd_T34 l0 x4_1).f1)] 34 (0, 0)) (by (with_reducible repeat (first | refine blk_drewN ?_ _ | refine blk_drew ?_ | refine blk_alloc ?_ _)); exact BK104.out) hb); have n3_ := Aside0.mk (below_step (by repeat (first | (with_reducible first | exact HB.out | apply below_alloc | apply pw_below_drewN | apply below_drew1 | refine below_set ?_ GE104.out) | exact HB.out)) hb); have n4_ := Aside0.mk (hbox); have n5_ := Aside0.mk ((by rw [hg]; exact (below_size (by repeat (first | (with_reducible first | exact HB.out | apply below_alloc | apply pw_below_drewN | apply below_drew1 | refine below_set ?_ GE104.out) | exact HB.out))) : w.heap.size ≤ gb108)); have n6_ := Aside0.mk ((by rw [hg]; exact (below_size (by repeat (first | (with_reducible first | exact HB.out | apply below_alloc | apply pw_below_drewN | apply below_drew1 | refine below_set ?_ GE104.out) | exact HB.out))) : w.heap.size ≤ gb108)); have n7_ := Aside0.mk ((by rw [hg]; exact Nat.ne_of_lt (blk_lt (g := gb104) (o := .cells #[u105000, .bool ((rd_T34 l0 x4_1).f1)] 34 (0, 0)) (by (with_reducible repeat (first | refine blk_drewN ?_ _ | refine blk_drew ?_ | refine blk_alloc ?_ _)); exact BK104.out)) : gb104 ≠ gb108)); have n8_ := Aside0.mk ((by rw [hg]; exact Nat.ne_of_gt (blk_lt (g := gb104) (o := .cells #[u105000, .bool ((rd_T34 l0 x4_1).f1)] 34 (0, 0)) (by (with_reducible repeat (first | refine blk_drewN ?_ _ | refine blk_drew ?_ | refine blk_alloc ?_ _)); exact BK104.out)) : gb108 ≠ gb104)); clear HO_3; clear HO_105000; clear BK104; clear HB; have HO_3 := n0_; have HO_105000 := n1_; have BK104 := n2_; have HB := n3_; have BK108 := n4_; have GW108 := n5_; have GE108 := n6_; have NB104_108 := n7_; have NB108_104 := n8_; clear n0_ n1_ n2_ n3_ n4_ n5_ n6_ n7_ n8_; clear hb hbox hg; have hnb16 := NB108_104.out; have hnc16 := NB104_108.out; have hcz17_0 : w15.cell? ⟨gb108, 0, none⟩ = some (.bool false) := (blk_cell BK108.out 0).trans rfl; have hcz17_1 : w15.cell? ⟨gb108, 1, none⟩ = some (.slice none 0 0) := (blk_cell BK108.out 1).trans rfl; have hcz17_2 : w15.cell? ⟨gb108, 2, none⟩ = some (.int .i64 0) := (blk_cell BK108.out 2).trans rfl; have hcz17_3 : w15.cell? ⟨gb108, 3, none⟩ = some (.slice none 0 0) := (blk_cell BK108.out 3).trans rfl; have hcz17_4 : w15.cell? ⟨gb108, 4, none⟩ = some (.slice none 0 0) := (blk_cell BK108.out 4).trans rfl; have hcz17_5 : w15.cell? ⟨gb108, 5, none⟩ = some (.slice none 0 0) := (blk_cell BK108.out 5).trans rfl; have hfz17_0 := blk_frozen BK108.out 0; have hfz17_1 := blk_frozen BK108.out 1; have hfz17_2 := blk_frozen BK108.out 2; have hfz17_3 := blk_frozen BK108.out 3; have hfz17_4 := blk_frozen BK108.out 4; have hfz17_5 := blk_frozen BK108.out 5) | ((with_reducible refine gate_dst (N := 8) rfl ?_); refine box_event ?hg (N := 8) ?hd (cs := #[.bool false, .slice none 0 0, .int .i64 0, .slice none 0 0, .slice none 0 0, .slice none 0 0]) (t := 41) ?hr ?_; (case hd => rfl); (case hg => rfl); (case hr => first | (go_simp; done) | (go_simp; rfl)); intro gb109 hg w18 hbox hb; have n0_ := Aside0.mk (Kd.R_below (Kd.R_elderB (by (with_reducible repeat (first | apply Kd.R_alloc | apply Kd.R_drewN | apply Kd.R_drew)); exact (Kd.R_mono (Kd.R_far (p := ⟨gb108, 5, none⟩) (Kd.R_far (p := ⟨gb108, 4, none⟩) (Kd.R_far (p := ⟨gb108, 3, none⟩) (Kd.R_far (p := ⟨gb108, 2, none⟩) (Kd.R_far (p := ⟨gb108, 1, none⟩) (Kd.R_far (p := ⟨gb108, 0, none⟩) (Kd.R_mono HO_3.out (fun k_ hk => (⟨hk, hk.2⟩ : _ ∧ k_ ≠ gb108))) (fun _ hk => hk.2) (.bool ((rd_T41 ((rd_T34 l0 x4_1).f0) x6_2).f0))) (fun _ hk => hk.2) (.slice A107_1 ((rd_T41 ((rd_T34 l0 x4_1).f0) x6_2).f1).length c107_1)) (fun _ hk => hk.2) (.int .i64 ((rd_T41 ((rd_T34 l0 x4_1).f0) x6_2).f2.f0))) (fun _ hk => hk.2) (.slice A107_3 ((rd_T41 ((rd_T34 l0 x4_1).f0) x6_2).f2.f1).length c107_3)) (fun _ hk => hk.2) (.slice A107_4 ((rd_T41 ((rd_T34 l0 x4_1).f0) x6_2).f2.f2).length c107_4)) (fun _ hk => hk.2) (.slice A107_5 ((rd_T41 ((rd_T34 l0 x4_1).f0) x6_2).f2.f3).length c107_5)) (fun _ h_ => h_.1))) gb109 (Nat.le_of_eq hg.symm)) hb); have n1_ := Aside0.mk (Kd.S_below (Kd.S_elderB (by (with_reducible repeat (first | apply Kd.S_alloc | apply Kd.S_drewN | apply Kd.S_drew)); exact (Kd.S_mono (Kd.S_far (p := ⟨gb108, 5, none⟩) (Kd.S_far (p := ⟨gb108, 4, none⟩) (Kd.S_far (p := ⟨gb108, 3, none⟩) (Kd.S_far (p := ⟨gb108, 2, none⟩) (Kd.S_far (p := ⟨gb108, 1, none⟩) (Kd.S_far (p := ⟨gb108, 0, none⟩) (Kd.S_mono HO_105000.out (fun k_ hk => (⟨hk, hk.2⟩ : _ ∧ k_ ≠ gb108))) (fun _ hk => hk.2) (.bool ((rd_T41 ((rd_T34 l0 x4_1).f0) x6_2).f0))) (fun _ hk => hk.2) (.slice A107_1 ((rd_T41 ((rd_T34 l0 x4_1).f0) x6_2).f1).length c107_1)) (fun _ hk => hk.2) (.int .i64 ((rd_T41 ((rd_T34 l0 x4_1).f0) x6_2).f2.f0))) (fun _ hk => hk.2) (.slice A107_3 ((rd_T41 ((rd_T34 l0 x4_1).f0) x6_2).f2.f1).length c107_3)) (fun _ hk => hk.2) (.slice A107_4 ((rd_T41 ((rd_T34 l0 x4_1).f0) x6_2).f2.f2).length c107_4)) (fun _ hk => hk.2) (.slice A107_5 ((rd_T41 ((rd_T34 l0 x4_1).f0) x6_2).f2.f3).length c107_5)) (fun _ h_ => h_.1))) gb109 (Nat.le_of_eq hg.symm)) hb); have n2_ := Aside0.mk (blk_below (g := gb104) (o := .cells #[u105000, .bool ((rd_T34 l0 x4_1).f1)] 34 (0, 0)) (by (with_reducible repeat (first | refine blk_drewN ?_ _ | refine blk_drew ?_ | refine blk_alloc ?_ _)); refine blk_far ?_ NB104_108.out _; (with_reducible repeat (first | refine blk_drewN ?_ _ | refine blk_drew ?_ | refine blk_alloc ?_ _)); refine blk_far ?_ NB104_108.out _; (with_reducible repeat (first | refine blk_drewN ?_ _ | refine blk_drew ?_ | refine blk_alloc ?_ _)); refine blk_far ?_ NB104_108.out _; (with_reducible repeat (first | refine blk_drewN ?_ _ | refine blk_drew ?_ | refine blk_alloc ?_ _)); refine blk_far ?_ NB104_108.out _; (with_reducible repeat (first | refine blk_drewN ?_ _ | refine blk_drew ?_ | refine blk_alloc ?_ _)); refine blk_far ?_ NB104_108.out _; (with_reducible repeat (first | refine blk_drewN ?_ _ | refine blk_drew ?_ | refine blk_alloc ?_ _)); refine blk_far ?_ NB104_108.out _; (with_reducible repeat (first | refine blk_drewN ?_ _ | refine blk_drew ?_ | refine blk_alloc ?_ _)); exact BK104.out) hb); have n3_ := Aside0.mk (blk_below (g := gb108) (o := .cells #[.bool ((rd_T41 ((rd_T34 l0 x4_1).f0) x6_2).f0), .slice A107_1 ((rd_T41 ((rd_T34 l0 x4_1).f0) x6_2).f1).length c107_1, .int .i64 ((rd_T41 ((rd_T34 l0 x4_1).f0) x6_2).f2.f0), .slice A107_3 ((rd_T41 ((rd_T34 l0 x4_1).f0) x6_2).f2.f1).length c107_3, .slice A107_4 ((rd_T41 ((rd_T34 l0 x4_1).f0) x6_2).f2.f2).length c107_4, .slice A107_5 ((rd_T41 ((rd_T34 l0 x4_1).f0) x6_2).f2.f3).length c107_5] 41 (0, 0)) (by (with_reducible repeat (first | refine blk_drewN ?_ _ | refine blk_drew ?_ | refine blk_alloc ?_ _)); refine blk_put (cs := #[.bool ((rd_T41 ((rd_T34 l0 x4_1).f0) x6_2).f0), .slice A107_1 ((rd_T41 ((rd_T34 l0 x4_1).f0) x6_2).f1).length c107_1, .int .i64 ((rd_T41 ((rd_T34 l0 x4_1).f0) x6_2).f2.f0), .slice A107_3 ((rd_T41 ((rd_T34 l0 x4_1).f0) x6_2).f2.f1).length c107_3, .slice A107_4 ((rd_T41 ((rd_T34 l0 x4_1).f0) x6_2).f2.f2).length c107_4, .slice none 0 0]) ?_ 5 _ rfl; (with_reducible repeat (first | refine blk_drewN ?_ _ | refine blk_drew ?_ | refine blk_alloc ?_ _)); refine blk_put (cs := #[.bool ((rd_T41 ((rd_T34 l0 x4_1).f0) x6_2).f0), .slice A107_1 ((rd_T41 ((rd_T34 l0 x4_1).f0) x6_2).f1).length c107_1, .int .i64 ((rd_T41 ((rd_T34 l0 x4_1).f0) x6_2).f2.f0), .slice A107_3 ((rd_T41 ((rd_T34 l0 x4_1).f0) x6_2).f2.f1).length c107_3, .slice none 0 0, .slice none 0 0]) ?_ 4 _ rfl; (with_reducible repeat (first | refine blk_drewN ?_ _ | refine blk_drew ?_ | refine blk_alloc ?_ _)); refine blk_put (cs := #[.bool ((rd_T41 ((rd_T34 l0 x4_1).f0) x6_2).f0), .slice A107_1 ((rd_T41 ((rd_T34 l0 x4_1).f0) x6_2).f1).length c107_1, .int .i64 ((rd_T41 ((rd_T34 l0 x4_1).f0) x6_2).f2.f0), .slice none 0 0, .slice none 0 0, .slice none 0 0]) ?_ 3 _ rfl; (with_reducible repeat (first | refine blk_drewN ?_ _ | refine blk_drew ?_ | refine blk_alloc ?_ _)); refine blk_put (cs := #[.bool ((rd_T41 ((rd_T34 l0 x4_1).f0) x6_2).f0), .slice A107_1 ((rd_T41 ((rd_T34 l0 x4_1).f0) x6_2).f1).length c107_1, .int .i64 0, .slice none 0 0, .slice none 0 0, .slice none 0 0]) ?_ 2 _ rfl; (with_reducible repeat (first | refine blk_drewN ?_ _ | refine blk_drew ?_ | refine blk_alloc ?_ _)); refine blk_put (cs := #[.bool ((rd_T41 ((rd_T34 l0 x4_1).f0) x6_2).f0), .slice none 0 0, .int .i64 0, .slice none 0 0, .slice none 0 0, .slice none 0 0]) ?_ 1 _ rfl; (with_reducible repeat (first | refine blk_drewN ?_ _ | refine blk_drew ?_ | refine blk_alloc ?_ _)); refine blk_put (cs := #[.bool false, .slice none 0 0, .int .i64 0, .slice none 0 0, .slice none 0 0, .slice none 0 0]) ?_ 0 _ rfl; (with_reducible repeat (first | refine blk_drewN ?_ _ | refine blk_drew ?_ | refine blk_alloc ?_ _)); exact BK108.out) hb); have n4_ := Aside0.mk (below_step (by repeat (first | (with_reducible first | exact HB.out | apply below_alloc | apply pw_below_drewN | apply below_drew1 | refine below_set ?_ GE104.out | refine below_set ?_ GE108.out) | exact HB.out)) hb); have n5_ := Aside0.mk (hbox); have n6_ := Aside0.mk ((by rw [hg]; exact (below_size (by repeat (first | (with_reducible first | exact HB.out | apply below_alloc | apply pw_below_drewN | apply below_drew1 | refine below_set ?_ GE104.out | refine below_set ?_ GE108.out) | exact HB.out))) : w.heap.size ≤ gb109)); have n7_ := Aside0.mk ((by rw [hg]; exact (below_size (by repeat (first | (with_reducible first | exact HB.out | apply below_alloc | apply pw_below_drewN | apply below_drew1 | refine below_set ?_ GE104.out | refine below_set ?_ GE108.out) | exact HB.out))) : w.heap.size ≤ gb109)); have n8_ := Aside0.mk ((by rw [hg]; exact Nat.ne_of_lt (blk_lt (g := gb104) (o := .cells #[u105000, .bool ((rd_T34 l0 x4_1).f1)] 34 (0, 0)) (by (with_reducible repeat (first | refine blk_drewN ?_ _ | refine blk_drew ?_ | refine blk_alloc ?_ _)); refine blk_far ?_ NB104_108.out _; (with_reducible repeat (first | refine blk_drewN ?_ _ | refine blk_drew ?_ | refine blk_alloc ?_ _)); refine blk_far ?_ NB104_108.out _; (with_reducible repeat (first | refine blk_drewN ?_ _ | refine blk_drew ?_ | refine blk_alloc ?_ _)); refine blk_far ?_ NB104_108.out _; (with_reducible repeat (first | refine blk_drewN ?_ _ | refine blk_drew ?_ | refine blk_alloc ?_ _)); refine blk_far ?_ NB104_108.out _; (with_reducible repeat (first | refine blk_drewN ?_ _ | refine blk_drew ?_ | refine blk_alloc ?_ _)); refine blk_far ?_ NB104_108.out _; (with_reducible repeat (first | refine blk_drewN ?_ _ | refine blk_drew ?_ | refine blk_alloc ?_ _)); refine blk_far ?_ NB104_108.out _; (with_reducible repeat (first | refine blk_drewN ?_ _ | refine blk_drew ?_ | refine blk_alloc ?_ _)); exact BK104.out)) : gb104 ≠ gb109)); have n9_ := Aside0.mk ((by rw [hg]; exact Nat.ne_of_gt (blk_lt (g := gb104) (o := .cells #[u105000, .bool ((rd_T34 l0 x4_1).f1)] 34 (0, 0)) (by (with_reducible repeat (first | refine blk_drewN ?_ _ | refine blk_drew ?_ | refine blk_alloc ?_ _)); refine blk_far ?_ NB104_108.out _; (with_reducible repeat (first | refine blk_drewN ?_ _ | refine blk_drew ?_ | refine blk_alloc ?_ _)); refine blk_far ?_ NB104_108.out _; (with_reducible repeat (first | refine blk_drewN ?_ _ | refine blk_drew ?_ | refine blk_alloc ?_ _)); refine blk_far ?_ NB104_108.out _; (with_reducible repeat (first | refine blk_drewN ?_ _ | refine blk_drew ?_ | refine blk_alloc ?_ _)); refine blk_far ?_ NB104_108.out _; (with_reducible repeat (first | refine blk_drewN ?_ _ | refine blk_drew ?_ | refine blk_alloc ?_ _)); refine blk_far ?_ NB104_108.out _; (with_reducible repeat (first | refine blk_drewN ?_ _ | refine blk_drew ?_ | refine blk_alloc ?_ _)); refine blk_far ?_ NB104_108.out _; (with_reducible repeat (first | refine blk_drewN ?_ _ | refine blk_drew ?_ | refine blk_alloc ?_ _)); exact BK104.out)) : gb109 ≠ gb104)); have n10_ := Aside0.mk ((by rw [hg]; exact Nat.ne_of_lt (blk_lt (g := gb108) (o := .cells #[.bool ((rd_T41 ((rd_T34 l0 x4_1).f0) x6_2).f0), .slice A107_1 ((rd_T41 ((rd_T34 l0 x4_1).f0) x6_2).f1).length c107_1, .int .i64 ((rd_T41 ((rd_T34 l0 x4_1).f0) x6_2).f2.f0), .slice A107_3 ((rd_T41 ((rd_T34 l0 x4_1).f0) x6_2).f2.f1).length c107_3, .slice A107_4 ((rd_T41 ((rd_T34 l0 x4_1).f0) x6_2).f2.f2).length c107_4, .slice A107_5 ((rd_T41 ((rd_T34 l0 x4_1).f0) x6_2).f2.f3).length c107_5] 41 (0, 0)) (by (with_reducible repeat (first | refine blk_drewN ?_ _ | refine blk_drew ?_ | refine blk_alloc ?_ _)); refine blk_put (cs := #[.bool ((rd_T41 ((rd_T34 l0 x4_1).f0) x6_2).f0), .slice A107_1 ((rd_T41 ((rd_T34 l0 x4_1).f0) x6_2).f1).length c107_1, .int .i64 ((rd_T41 ((rd_T34 l0 x4_1).f0) x6_2).f2.f0), .slice A107_3 ((rd_T41 ((rd_T34 l0 x4_1).f0) x6_2).f2.f1).length c107_3, .slice A107_4 ((rd_T41 ((rd_T34 l0 x4_1).f0) x6_2).f2.f2).length c107_4, .slice none 0 0]) ?_ 5 _ rfl; (with_reducible repeat (first | refine blk_drewN ?_ _ | refine blk_drew ?_ | refine blk_alloc ?_ _)); refine blk_put (cs := #[.bool ((rd_T41 ((rd_T34 l0 x4_1).f0) x6_2).f0), .slice A107_1 ((rd_T41 ((rd_T34 l0 x4_1).f0) x6_2).f1).length c107_1, .int .i64 ((rd_T41 ((rd_T34 l0 x4_1).f0) x6_2).f2.f0), .slice A107_3 ((rd_T41 ((rd_T34 l0 x4_1).f0) x6_2).f2.f1).length c107_3, .slice none 0 0, .slice none 0 0]) ?_ 4 _ rfl; (with_reducible repeat (first | refine blk_drewN ?_ _ | refine blk_drew ?_ | refine blk_alloc ?_ _)); refine blk_put (cs := #[.bool ((rd_T41 ((rd_T34 l0 x4_1).f0) x6_2).f0), .slice A107_1 ((rd_T41 ((rd_T34 l0 x4_1).f0) x6_2).f1).length c107_1, .int .i64 ((rd_T41 ((rd_T34 l0 x4_1).f0) x6_2).f2.f0), .slice none 0 0, .slice none 0 0, .slice none 0 0]) ?_ 3 _ rfl; (with_reducible repeat (first | refine blk_drewN ?_ _ | refine blk_drew ?_ | refine blk_alloc ?_ _)); refine blk_put (cs := #[.bool ((rd_T41 ((rd_T34 l0 x4_1).f0) x6_2).f0), .slice A107_1 ((rd_T41 ((rd_T34 l0 x4_1).f0) x6_2).f1).length c107_1, .int .i64 0, .slice none 0 0, .slice none 0 0, .slice none 0 0]) ?_ 2 _ rfl; (with_reducible repeat (first | refine blk_drewN ?_ _ | refine blk_drew ?_ | refine blk_alloc ?_ _)); refine blk_put (cs := #[.bool ((rd_T41 ((rd_T34 l0 x4_1).f0) x6_2).f0), .slice none 0 0, .int .i64 0, .slice none 0 0, .slice none 0 0, .slice none 0 0]) ?_ 1 _ rfl; (with_reducible repeat (first | refine blk_drewN ?_ _ | refine blk_drew ?_ | refine blk_alloc ?_ _)); refine blk_put (cs := #[.bool false, .slice none 0 0, .int .i64 0, .slice none 0 0, .slice none 0 0, .slice none 0 0]) ?_ 0 _ rfl; (with_reducible repeat (first | refine blk_drewN ?_ _ | refine blk_drew ?_ | refine blk_alloc ?_ _)); exact BK108.out)) : gb108 ≠ gb109)); have n11_ := Aside0.mk ((by rw [hg]; exact Nat.ne_of_gt (blk_lt (g := gb108) (o := .cells #[.bool ((rd_T41 ((rd_T34 l0 x4_1).f0) x6_2).f0), .slice A107_1 ((rd_T41 ((rd_T34 l0 x4_1).f0) x6_2).f1).length c107_1, .int .i64 ((rd_T41 ((rd_T34 l0 x4_1).f0) x6_2).f2.f0), .slice A107_3 ((rd_T41 ((rd_T34 l0 x4_1).f0) x6_2).f2.f1).length c107_3, .slice A107_4 ((rd_T41 ((rd_T34 l0 x4_1).f0) x6_2).f2.f2).length c107_4, .slice A107_5 ((rd_T41 ((rd_T34 l0 x4_1).f0) x6_2).f2.f3).length c107_5] 41 (0, 0)) (by (with_reducible repeat (first | refine blk_drewN ?_ _ | refine blk_drew ?_ | refine blk_alloc ?_ _)); refine blk_put (cs := #[.bool ((rd_T41 ((rd_T34 l0 x4_1).f0) x6_2).f0), .slice A107_1 ((rd_T41 ((rd_T34 l0 x4_1).f0) x6_2).f1).length c107_1, .int .i64 ((rd_T41 ((rd_T34 l0 x4_1).f0) x6_2).f2.f0), .slice A107_3 ((rd_T41 ((rd_T34 l0 x4_1).f0) x6_2).f2.f1).length c107_3, .slice A107_4 ((rd_T41 ((rd_T34 l0 x4_1).f0) x6_2).f2.f2).length c107_4, .slice none 0 0]) ?_ 5 _ rfl; (with_reducible repeat (first | refine blk_drewN ?_ _ | refine blk_drew ?_ | refine blk_alloc ?_ _)); refine blk_put (cs := #[.bool ((rd_T41 ((rd_T34 l0 x4_1).f0) x6_2).f0), .slice A107_1 ((rd_T41 ((rd_T34 l0 x4_1).f0) x6_2).f1).length c107_1, .int .i64 ((rd_T41 ((rd_T34 l0 x4_1).f0) x6_2).f2.f0), .slice A107_3 ((rd_T41 ((rd_T34 l0 x4_1).f0) x6_2).f2.f1).length c107_3, .slice none 0 0, .slice none 0 0]) ?_ 4 _ rfl; (with_reducible repeat (first | refine blk_drewN ?_ _ | refine blk_drew ?_ | refine blk_alloc ?_ _)); refine blk_put (cs := #[.bool ((rd_T41 ((rd_T34 l0 x4_1).f0) x6_2).f0), .slice A107_1 ((rd_T41 ((rd_T34 l0 x4_1).f0) x6_2).f1).length c107_1, .int .i64 ((rd_T41 ((rd_T34 l0 x4_1).f0) x6_2).f2.f0), .slice none 0 0, .slice none 0 0, .slice none 0 0]) ?_ 3 _ rfl; (with_reducible repeat (first | refine blk_drewN ?_ _ | refine blk_drew ?_ | refine blk_alloc ?_ _)); refine blk_put (cs := #[.bool ((rd_T41 ((rd_T34 l0 x4_1).f0) x6_2).f0), .slice A107_1 ((rd_T41 ((rd_T34 l0 x4_1).f0) x6_2).f1).length c107_1, .int .i64 0, .slice none 0 0, .slice none 0 0, .slice none 0 0]) ?_ 2 _ rfl; (with_reducible repeat (first | refine blk_drewN ?_ _ | refine blk_drew ?_ | refine blk_alloc ?_ _)); refine blk_put (cs := #[.bool ((rd_T41 ((rd_T34 l0 x4_1).f0) x6_2).f0), .slice none 0 0, .int .i64 0, .slice none 0 0, .slice none 0 0, .slice none 0 0]) ?_ 1 _ rfl; (with_reducible repeat (first | refine blk_drewN ?_ _ | refine blk_drew ?_ | refine blk_alloc ?_ _)); refine blk_put (cs := #[.bool false, .slice none 0 0, .int .i64 0, .slice none 0 0, .slice none 0 0, .slice none 0 0]) ?_ 0 _ rfl; (with_reducible repeat (first | refine blk_drewN ?_ _ | refine blk_drew ?_ | refine blk_alloc ?_ _)); exact BK108.out)) : gb109 ≠ gb108)); clear HO_3; clear HO_105000; clear BK104; clear BK108; clear HB; have HO_3 := n0_; have HO_105000 := n1_; have BK104 := n2_; have BK108 := n3_; have HB := n4_; have BK109 := n5_; have GW109 := n6_; have GE109 := n7_; have NB104_109 := n8_; have NB109_104 := n9_; have NB108_109 := n10_; have NB109_108 := n11_; clear n0_ n1_ n2_ n3_ n4_ n5_ n6_ n7_ n8_ n9_ n10_ n11_; clear hb hbox hg; have hnb19 := NB108_109.out; have hnc19 := NB109_108.out; have hcz20_0 : w18.cell? ⟨gb108, 0, none⟩ = some (.bool ((rd_T41 ((rd_T34 l0 x4_1).f0) x6_2).f0)) := (blk_cell BK108.out 0).trans rfl; have hcz20_1 : w18.cell? ⟨gb108, 1, none⟩ = some (.slice A107_1 ((rd_T41 ((rd_T34 l0 x4_1).f0) x6_2).f1).length c107_1) := (blk_cell BK108.out 1).trans rfl; have hcz20_2 : w18.cell? ⟨gb108, 2, none⟩ = some (.int .i64 ((rd_T41 ((rd_T34 l0 x4_1).f0) x6_2).f2.f0)) := (blk_cell BK108.out 2).trans rfl; have hcz20_3 : w18.cell? ⟨gb108, 3, none⟩ = some (.slice A107_3 ((rd_T41 ((rd_T34 l0 x4_1).f0) x6_2).f2.f1).length c107_3) := (blk_cell BK108.out 3).trans rfl; have hcz20_4 : w18.cell? ⟨gb108, 4, none⟩ = some (.slice A107_4 ((rd_T41 ((rd_T34 l0 x4_1).f0) x6_2).f2.f2).length c107_4) := (blk_cell BK108.out 4).trans rfl; have hcz20_5 : w18.cell? ⟨gb108, 5, none⟩ = some (.slice A107_5 ((rd_T41 ((rd_T34 l0 x4_1).f0) x6_2).f2.f3).length c107_5) := (blk_cell BK108.out 5).trans rfl; have hfz20_0 := blk_frozen BK108.out 0; have hfz20_1 := blk_frozen BK108.out 1; have hfz20_2 := blk_frozen BK108.out 2; have hfz20_3 := blk_frozen BK108.out 3; have hfz20_4 := blk_frozen BK108.out 4; have hfz20_5 := blk_frozen BK108.out 5; have hnb21 := NB109_104.out; have hnc21 := NB104_109.out; have hcz22_0 : w18.cell? ⟨gb109, 0, none⟩ = some (.bool false) := (blk_cell BK109.out 0).trans rfl; have hcz22_1 : w18.cell? ⟨gb109, 1, none⟩ = some (.slice none 0 0) := (blk_cell BK109.out 1).trans rfl; have hcz22_2 : w18.cell? ⟨gb109, 2, none⟩ = some (.int .i64 0) := (blk_cell BK109.out 2).trans rfl; have hcz22_3 : w18.cell? ⟨gb109, 3, none⟩ = some (.slice none 0 0) := (blk_cell BK109.out 3).trans rfl; have hcz22_4 : w18.cell? ⟨gb109, 4, none⟩ = some (.slice none 0 0) := (blk_cell BK109.out 4).trans rfl; have hcz22_5 : w18.cell? ⟨gb109, 5, none⟩ = some (.slice none 0 0) := (blk_cell BK109.out 5).trans rfl; have hfz22_0 := blk_frozen BK109.out 0; have hfz22_1 := blk_frozen BK109.out 1; have hfz22_2 := blk_frozen BK109.out 2; have hfz22_3 := blk_frozen BK109.out 3; have hfz22_4 := blk_frozen BK109.out 4; have hfz22_5 := blk_frozen BK109.out 5) | ((with_reducible refine gate_builtin (b := .append) (xs := #[.tmp 43, .tmp 45]) rfl ?_); at_builtin; refine Kd.R_append_rows (Kd.int .i64) (w0 := w) w.heap.size rfl (.tmp 43) (.tmp 45) 35 3 (.int .i64 0) 8 rfl Tryd.underlying35 info3 rfl (by decide) (by omega) (.slice none 0 0) ([] : List Int) ((rd_T41 ((rd_T34 l0 x4_1).f0) x6_2).f1) _ _ _ (fun _ => True) (fun _ => False) rfl rfl ?aO ?aR (fun _ _ h => h) (fun _ h => h.elim) ?aF ?aB ?aS ?aL ?_; (case aR => exact Kd.C_below HR107_1.out (by repeat (first | (with_reducible first | exact HB.out | apply below_alloc | apply pw_below_drewN | apply below_drew1 | refine below_set ?_ GE104.out | refine below_set ?_ GE108.out | refine below_set ?_ GE109.out) | exact HB.out))); (case aB => exact (by repeat (first | (with_reducible first | exact HB.out | apply below_alloc | apply pw_below_drewN | apply below_drew1 | refine below_set ?_ GE104.out | refine below_set ?_ GE108.out | refine below_set ?_ GE109.out) | exact HB.out))); (case aF => exact (fun _ _ => trivial)); (case aO => exact ((Kd.R_nil _ _ _ _ (fun _ => True)))); (case aS => exact (below_size (by repeat (first | (with_reducible first | exact HB.out | apply below_alloc | apply pw_below_drewN | apply below_drew1 | refine below_set ?_ GE104.out | refine below_set ?_ GE108.out | refine below_set ?_ GE109.out) | exact HB.out)))); (case aL => have := LMc10.out; omega); intro v111 w23 ho hb hg hat; rw [← Ny110.out] at ho; have n0_ := Aside0.mk (Kd.R_after (Kd.R_apart_nil (by (with_reducible repeat (first | apply Kd.R_alloc | apply Kd.R_drewN | apply Kd.R_drew)); exact (Kd.R_mono (Kd.R_far (p := ⟨gb109, 0, none⟩) (Kd.R_mono HO_3.out (fun k_ hk => (⟨hk, hk.2⟩ : _ ∧ k_ ≠ gb109))) (fun _ hk => hk.2) (.bool ((rd_T41 ((rd_T34 l0 x4_1).f0) x6_2).f0))) (fun _ h_ => h_.1)))) hg hat); have n1_ := Aside0.mk (Kd.S_after (Kd.S_apart_nil (by (with_reducible repeat (first | apply Kd.S_alloc | apply Kd.S_drewN | apply Kd.S_drew)); exact (Kd.S_mono (Kd.S_far (p := ⟨gb109, 0, none⟩) (Kd.S_mono HO_105000.out (fun k_ hk => (⟨hk, hk.2⟩ : _ ∧ k_ ≠ gb109))) (fun _ hk => hk.2) (.bool ((rd_T41 ((rd_T34 l0 x4_1).f0) x6_2).f0))) (fun _ h_ => h_.1)))) hg hat); have n2_ := Aside0.mk (blk_grown (g := gb104) (o := .cells #[u105000, .bool ((rd_T34 l0 x4_1).f1)] 34 (0, 0)) (by (with_reducible repeat (first | refine blk_drewN ?_ _ | refine blk_drew ?_ | refine blk_alloc ?_ _)); refine blk_far ?_ NB104_109.out _; (with_reducible repeat (first | refine blk_drewN ?_ _ | refine blk_drew ?_ | refine blk_alloc ?_ _)); exact BK104.out) hg (by simp [Value.ownBlock])); have n3_ := Aside0.mk (blk_grown (g := gb108) (o := .cells #[.bool ((rd_T41 ((rd_T34 l0 x4_1).f0) x6_2).f0), .slice A107_1 ((rd_T41 ((rd_T34 l0 x4_1).f0) x6_2).f1).length c107_1, .int .i64 ((rd_T41 ((rd_T34 l0 x4_1).f0) x6_2).f2.f0), .slice A107_3 ((rd_T41 ((rd_T34 l0 x4_1).f0) x6_2).f2.f1).length c107_3, .slice A107_4 ((rd_T41 ((rd_T34 l0 x4_1).f0) x6_2).f2.f2).length c107_4, .slice A107_5 ((rd_T41 ((rd_T34 l0 x4_1).f0) x6_2).f2.f3).length c107_5] 41 (0, 0)) (by (with_reducible repeat (first | refine blk_drewN ?_ _ | refine blk_drew ?_ | refine blk_alloc ?_ _)); refine blk_far ?_ NB108_109.out _; (with_reducible repeat (first | refine blk_drewN ?_ _ | refine blk_drew ?_ | refine blk_alloc ?_ _)); exact BK108.out) hg (by simp [Value.ownBlock])); have n4_ := Aside0.mk (blk_grown (g := gb109) (o := .cells #[.bool ((rd_T41 ((rd_T34 l0 x4_1).f0) x6_2).f0), .slice none 0 0, .int .i64 0, .slice none 0 0, .slice none 0 0, .slice none 0 0] 41 (0, 0)) (by (with_reducible repeat (first | refine blk_drewN ?_ _ | refine blk_drew ?_ | refine blk_alloc ?_ _)); refine blk_put (cs := #[.bool false, .slice none 0 0, .int .i64 0, .slice none 0 0, .slice none 0 0, .slice none 0 0]) ?_ 0 _ rfl; (with_reducible repeat (first | refine blk_drewN ?_ _ | refine blk_drew ?_ | refine blk_alloc ?_ _)); exact BK109.out) hg (by simp [Value.ownBlock])); have n5_ := Aside0.mk (hb); have n6_ := Aside0.mk (ho); clear HO_3; clear HO_105000; clear BK104; clear BK108; clear BK109; clear HB; have HO_3 := n0_; have HO_105000 := n1_; have BK104 := n2_; have BK108 := n3_; have BK109 := n4_; have HB := n5_; have HO112 := n6_; clear n0_ n1_ n2_ n3_ n4_ n5_ n6_; clear ho hb hg hat; obtain ⟨Ao24, co24, eo24⟩ := Kd.R_slice HO112.out; subst eo24; have hcz25_0 : w23.cell? ⟨gb109, 0, none⟩ = some (.bool ((rd_T41 ((rd_T34 l0 x4_1).f0) x6_2).f0)) := (blk_cell BK109.out 0).trans rfl; have hcz25_1 : w23.cell? ⟨gb109, 1, none⟩ = some (.slice none 0 0) := (blk_cell BK109.out 1).trans rfl; have hcz25_2 : w23.cell? ⟨gb109, 2, none⟩ = some (.int .i64 0) := (blk_cell BK109.out 2).trans rfl; have hcz25_3 : w23.cell? ⟨gb109, 3, none⟩ = some (.slice none 0 0) := (blk_cell BK109.out 3).trans rfl; have hcz25_4 : w23.cell? ⟨gb109, 4, none⟩ = some (.slice none 0 0) := (blk_cell BK109.out 4).trans rfl; have hcz25_5 : w23.cell? ⟨gb109, 5, none⟩ = some (.slice none 0 0) := (blk_cell BK109.out 5).trans rfl; have hfz25_0 := blk_frozen BK109.out 0; have hfz25_1 := blk_frozen BK109.out 1; have hfz25_2 := blk_frozen BK109.out 2; have hfz25_3 := blk_frozen BK109.out 3; have hfz25_4 := blk_frozen BK109.out 4; have hfz25_5 := blk_frozen BK109.out 5; have hcz26_0 : w23.cell? ⟨gb108, 0, none⟩ = some (.bool ((rd_T41 ((rd_T34 l0 x4_1).f0) x6_2).f0)) := (blk_cell BK108.out 0).trans rfl; have hcz26_1 : w23.cell? ⟨gb108, 1, none⟩ = some (.slice A107_1 ((rd_T41 ((rd_T34 l0 x4_1).f0) x6_2).f1).length c107_1) := (blk_cell BK108.out 1).trans rfl; have hcz26_2 : w23.cell? ⟨gb108, 2, none⟩ = some (.int .i64 ((rd_T41 ((rd_T34 l0 x4_1).f0) x6_2).f2.f0)) := (blk_cell BK108.out 2).trans rfl; have hcz26_3 : w23.cell? ⟨gb108, 3, none⟩ = some (.slice A107_3 ((rd_T41 ((rd_T34 l0 x4_1).f0) x6_2).f2.f1).length c107_3) := (blk_cell BK108.out 3).trans rfl; have hcz26_4 : w23.cell? ⟨gb108, 4, none⟩ = some (.slice A107_4 ((rd_T41 ((rd_T34 l0 x4_1).f0) x6_2).f2.f2).length c107_4) := (blk_cell BK108.out 4).trans rfl; have hcz26_5 : w23.cell? ⟨gb108, 5, none⟩ = some (.slice A107_5 ((rd_T41 ((rd_T34 l0 x4_1).f0) x6_2).f2.f3).length c107_5) := (blk_cell BK108.out 5).trans rfl; have hfz26_0 := blk_frozen BK108.out 0; have hfz26_1 := blk_frozen BK108.out 1; have hfz26_2 := blk_frozen BK108.out 2; have hfz26_3 := blk_frozen BK108.out 3; have hfz26_4 := blk_frozen BK108.out 4; have hfz26_5 := blk_frozen BK108.out 5) | ((with_reducible refine gate_builtin (b := .append) (xs := #[.tmp 55, .tmp 58]) rfl ?_); at_builtin; refine Kd.R_append_rows k72 (w0 := w) w.heap.size rfl (.tmp 55) (.tmp 58) 36 72 (.agg #[(.int .i64 0), (.bool false), (.int .i64 0)]) 24 rfl Tryd.underlying36 info72 rfl (by decide) (by omega) (.slice none 0 0) ([] : List (S72)) ((rd_T41 ((rd_T34 l0 x4_1).f0) x6_2).f2.f1) _ _ _ (fun _ => True) (fun _ => False) rfl rfl ?aO ?aR (fun _ _ h => h) (fun _ h => h.elim) ?aF ?aB ?aS ?aL ?_; (case aR => exact Kd.C_below HR107_3.out (by repeat (first | (with_reducible first | exact HB.out | apply below_alloc | apply pw_below_drewN | apply below_drew1 | refine below_set ?_ GE104.out | refine below_set ?_ GE108.out | refine below_set ?_ GE109.out) | exact HB.out))); (case aB => exact (by repeat (first | (with_reducible first | exact HB.out | apply below_alloc | apply pw_below_drewN | apply below_drew1 | refine below_set ?_ GE104.out | refine below_set ?_ GE108.out | refine below_set ?_ GE109.out) | exact HB.out))); (case aF => exact (fun _ _ => trivial)); (case aO => exact ((Kd.R_nil _ _ _ _ (fun _ => True)))); (case aS => exact (below_size (by repeat (first | (with_reducible first | exact HB.out | apply below_alloc | apply pw_below_drewN | apply below_drew1 | refine below_set ?_ GE104.out | refine below_set ?_ GE108.out | refine below_set ?_ GE109.out) | exact HB.out)))); (case aL => have := LMc11.out; omega); intro v114 w27 ho hb hg hat; rw [← Ny113.out] at ho; have n0_ := Aside0.mk (Kd.R_after (Kd.R_apart_nil (by (with_reducible repeat (first | apply Kd.R_alloc | apply Kd.R_drewN | apply Kd.R_drew)); exact (Kd.R_mono (Kd.R_far (p := ⟨gb109, 2, none⟩) (Kd.R_far (p := ⟨gb109, 1, none⟩) (Kd.R_mono HO_3.out (fun k_ hk => (⟨hk, hk.1.2⟩ : _ ∧ k_ ≠ gb109))) (fun _ hk => hk.2) (.slice Ao24 y110.length co24)) (fun _ hk => hk.2) (.int .i64 ((rd_T41 ((rd_T34 l0 x4_1).f0) x6_2).f2.f0))) (fun _ h_ => h_.1)))) hg hat); have n1_ := Aside0.mk (Kd.S_after (Kd.S_apart_nil (by (with_reducible repeat (first | apply Kd.S_alloc | apply Kd.S_drewN | apply Kd.S_drew)); exact (Kd.S_mono (Kd.S_far (p := ⟨gb109, 2, none⟩) (Kd.S_far (p := ⟨gb109, 1, none⟩) (Kd.S_mono HO_105000.out (fun k_ hk => (⟨hk, hk.1.2⟩ : _ ∧ k_ ≠ gb109))) (fun _ hk => hk.2) (.slice Ao24 y110.length co24)) (fun _ hk => hk.2) (.int .i64 ((rd_T41 ((rd_T34 l0 x4_1).f0) x6_2).f2.f0))) (fun _ h_ => h_.1)))) hg hat); have n2_ := Aside0.mk (blk_grown (g := gb104) (o := .cells #[u105000, .bool ((rd_T34 l0 x4_1).f1)] 34 (0, 0)) (by (with_reducible repeat (first | refine blk_drewN ?_ _ | refine blk_drew ?_ | refine blk_alloc ?_ _)); refine blk_far ?_ NB104_109.out _; (with_reducible repeat (first | refine blk_drewN ?_ _ | refine blk_drew ?_ | refine blk_alloc ?_ _)); refine blk_far ?_ NB104_109.out _; (with_reducible repeat (first | refine blk_drewN ?_ _ | refine blk_drew ?_ | refine blk_alloc ?_ _)); exact BK104.out) hg (by simp [Value.ownBlock])); have n3_ := Aside0.mk (blk_grown (g := gb108) (o := .cells #[.bool ((rd_T41 ((rd_T34 l0 x4_1).f0) x6_2).f0), .slice A107_1 ((rd_T41 ((rd_T34 l0 x4_1).f0) x6_2).f1).length c107_1, .int .i64 ((rd_T41 ((rd_T34 l0 x4_1).f0) x6_2).f2.f0), .slice A107_3 ((rd_T41 ((rd_T34 l0 x4_1).f0) x6_2).f2.f1).length c107_3, .slice A107_4 ((rd_T41 ((rd_T34 l0 x4_1).f0) x6_2).f2.f2).length c107_4, .slice A107_5 ((rd_T41 ((rd_T34 l0 x4_1).f0) x6_2).f2.f3).length c107_5] 41 (0, 0)) (by (with_reducible repeat (first | refine blk_drewN ?_ _ | refine blk_drew ?_ | refine blk_alloc ?_ _)); refine blk_far ?_ NB108_109.out _; (with_reducible repeat (first | refine blk_drewN ?_ _ | refine blk_drew ?_ | refine blk_alloc ?_ _)); refine blk_far ?_ NB108_109.out _; (with_reducible repeat (first | refine blk_drewN ?_ _ | refine blk_drew ?_ | refine blk_alloc ?_ _)); exact BK108.out) hg (by simp [Value.ownBlock])); have n4_ := Aside0.mk (blk_grown (g := gb109) (o := .cells #[.bool ((rd_T41 ((rd_T34 l0 x4_1).f0) x6_2).f0), .slice Ao24 y110.length co24, .int .i64 ((rd_T41 ((rd_T34 l0 x4_1).f0) x6_2).f2.f0), .slice none 0 0, .slice none 0 0, .slice none 0 0] 41 (0, 0)) (by (with_reducible repeat (first | refine blk_drewN ?_ _ | refine blk_drew ?_ | refine blk_alloc ?_ _)); refine blk_put (cs := #[.bool ((rd_T41 ((rd_T34 l0 x4_1).f0) x6_2).f0), .slice Ao24 y110.length co24, .int .i64 0, .slice none 0 0, .slice none 0 0, .slice none 0 0]) ?_ 2 _ rfl; (with_reducible repeat (first | refine blk_drewN ?_ _ | refine blk_drew ?_ | refine blk_alloc ?_ _)); refine blk_put (cs := #[.bool ((rd_T41 ((rd_T34 l0 x4_1).f0) x6_2).f0), .slice none 0 0, .int .i64 0, .slice none 0 0, .slice none 0 0, .slice none 0 0]) ?_ 1 _ rfl; (with_reducible repeat (first | refine blk_drewN ?_ _ | refine blk_drew ?_ | refine blk_alloc ?_ _)); exact BK109.out) hg (by simp [Value.ownBlock])); have n5_ := Aside0.mk (Kd.R_grown (by (with_reducible repeat (first | apply Kd.R_alloc | apply Kd.R_drewN | apply Kd.R_drew)); exact (Kd.R_mono (Kd.R_far (p := ⟨gb109, 2, none⟩) (Kd.R_far (p := ⟨gb109, 1, none⟩) (Kd.R_types HO112.out BK109.out (by decide)) (fun _ hk => hk.2) (.slice Ao24 y110.length co24)) (fun _ hk => hk.2) (.int .i64 ((rd_T41 ((rd_T34 l0 x4_1).f0) x6_2).f2.f0))) (fun _ h_ => h_.1))) hg (fun _ _ => by simp [Value.ownBlock])); have n6_ := Aside0.mk (hb); have n7_ := Aside0.mk (ho); clear HO_3; clear HO_105000; clear BK104; clear BK108; clear BK109; clear HO112; clear HB; have HO_3 := n0_; have HO_105000 := n1_; have BK104 := n2_; have BK108 := n3_; have BK109 := n4_; have HO112 := n5_; have HB := n6_; have HO115 := n7_; clear n0_ n1_ n2_ n3_ n4_ n5_ n6_ n7_; clear ho hb hg hat; obtain ⟨Ao28, co28, eo28⟩ := Kd.R_slice HO115.out; subst eo28; have hcz29_0 : w27.cell? ⟨gb109, 0, none⟩ = some (.bool ((rd_T41 ((rd_T34 l0 x4_1).f0) x6_2).f0)) := (blk_cell BK109.out 0).trans rfl; have hcz29_1 : w27.cell? ⟨gb109, 1, none⟩ = some (.slice Ao24 y110.length co24) := (blk_cell BK109.out 1).trans rfl; have hcz29_2 : w27.cell? ⟨gb109, 2, none⟩ = some (.int .i64 ((rd_T41 ((rd_T34 l0 x4_1).f0) x6_2).f2.f0)) := (blk_cell BK109.out 2).trans rfl; have hcz29_3 : w27.cell? ⟨gb109, 3, none⟩ = some (.slice none 0 0) := (blk_cell BK109.out 3).trans rfl; have hcz29_4 : w27.cell? ⟨gb109, 4, none⟩ = some (.slice none 0 0) := (blk_cell BK109.out 4).trans rfl; have hcz29_5 : w27.cell? ⟨gb109, 5, none⟩ = some (.slice none 0 0) := (blk_cell BK109.out 5).trans rfl; have hfz29_0 := blk_frozen BK109.out 0; have hfz29_1 := blk_frozen BK109.out 1; have hfz29_2 := blk_frozen BK109.out 2; have hfz29_3 := blk_frozen BK109.out 3; have hfz29_4 := blk_frozen BK109.out 4; have hfz29_5 := blk_frozen BK109.out 5; have hcz30_0 : w27.cell? ⟨gb108, 0, none⟩ = some (.bool ((rd_T41 ((rd_T34 l0 x4_1).f0) x6_2).f0)) := (blk_cell BK108.out 0).trans rfl; have hcz30_1 : w27.cell? ⟨gb108, 1, none⟩ = some (.slice A107_1 ((rd_T41 ((rd_T34 l0 x4_1).f0) x6_2).f1).length c107_1) := (blk_cell BK108.out 1).trans rfl; have hcz30_2 : w27.cell? ⟨gb108, 2, none⟩ = some (.int .i64 ((rd_T41 ((rd_T34 l0 x4_1).f0) x6_2).f2.f0)) := (blk_cell BK108.out 2).trans rfl; have hcz30_3 : w27.cell? ⟨gb108, 3, none⟩ = some (.slice A107_3 ((rd_T41 ((rd_T34 l0 x4_1).f0) x6_2).f2.f1).length c107_3) := (blk_cell BK108.out 3).trans rfl; have hcz30_4 : w27.cell? ⟨gb108, 4, none⟩ = some (.slice A107_4 ((rd_T41 ((rd_T34 l0 x4_1).f0) x6_2).f2.f2).length c107_4) := (blk_cell BK108.out 4).trans rfl; have hcz30_5 : w27.cell? ⟨gb108, 5, none⟩ = some (.slice A107_5 ((rd_T41 ((rd_T34 l0 x4_1).f0) x6_2).f2.f3).length c107_5) := (blk_cell BK108.out 5).trans rfl; have hfz30_0 := blk_frozen BK108.out 0; have hfz30_1 := blk_frozen BK108.out 1; have hfz30_2 := blk_frozen BK108.out 2; have hfz30_3 := blk_frozen BK108.out 3; have hfz30_4 := blk_frozen BK108.out 4; have hfz30_5 := blk_frozen BK108.out 5) | ((with_reducible refine gate_builtin (b := .append) (xs := #[.tmp 64, .tmp 67]) rfl ?_); at_builtin; refine Kd.R_append_rows k72 (w0 := w) w.heap.size rfl (.tmp 64) (.tmp 67) 36 72 (.agg #[(.int .i64 0), (.bool false), (.int .i64 0)]) 24 rfl Tryd.underlying36 info72 rfl (by decide) (by omega) (.slice none 0 0) ([] : List (S72)) ((rd_T41 ((rd_T34 l0 x4_1).f0) x6_2).f2.f2) _ _ _ (fun k_ => some k_ ≠ (.slice Ao28 y113.length co28 : Value).ownBlock) (fun _ => False) rfl rfl ?aO ?aR (fun _ _ h => h) (fun _ h => h.elim) ?aF ?aB ?aS ?aL ?_; (case aR => exact Kd.C_below HR107_4.out (by repeat (first | (with_reducible first | exact HB.out | apply below_alloc | apply pw_below_drewN | apply below_drew1 | refine below_set ?_ GE104.out | refine below_set ?_ GE108.out | refine below_set ?_ GE109.out) | exact HB.out))); (case aB => exact (by repeat (first | (with_reducible first | exact HB.out | apply below_alloc | apply pw_below_drewN | apply below_drew1 | refine below_set ?_ GE104.out | refine below_set ?_ GE108.out | refine below_set ?_ GE109.out) | exact HB.out))); (case aF => exact (fun k_ hk => Kd.fresh' (Kd.R_lt (by (with_reducible repeat (first | apply Kd.R_alloc | apply Kd.R_drewN | apply Kd.R_drew)); exact (Kd.R_mono (Kd.R_far (p := ⟨gb109, 3, none⟩) (Kd.R_types HO115.out BK109.out (by decide)) (fun _ hk => hk.2) (.slice Ao28 y113.length co28)) (fun _ h_ => h_.1)))) k_ hk)); (case aO => exact ((Kd.R_nil _ _ _ _ (fun k_ => some k_ ≠ (.slice Ao28 y113.length co28 : Value).ownBlock)))); (case aS => exact (below_size (by repeat (first | (with_reducible first | exact HB.out | apply below_alloc | apply pw_below_drewN | apply below_drew1 | refine below_set ?_ GE104.out | refine below_set ?_ GE108.out | refine below_set ?_ GE109.out) | exact HB.out)))); (case aL => have := LMc12.out; omega); intro v117 w31 ho hb hg hat; rw [← Ny116.out] at ho; have n0_ := Aside0.mk (Kd.R_after (Kd.R_apart_nil (by (with_reducible repeat (first | apply Kd.R_alloc | apply Kd.R_drewN | apply Kd.R_drew)); exact (Kd.R_mono (Kd.R_far (p := ⟨gb109, 3, none⟩) (Kd.R_mono HO_3.out (fun k_ hk => (⟨hk, hk.1.1.2⟩ : _ ∧ k_ ≠ gb109))) (fun _ hk => hk.2) (.slice Ao28 y113.length co28)) (fun _ h_ => h_.1)))) hg hat); have n1_ := Aside0.mk (Kd.S_after (Kd.S_apart_nil (by (with_reducible repeat (first | apply Kd.S_alloc | apply Kd.S_drewN | apply Kd.S_drew)); exact (Kd.S_mono (Kd.S_far (p := ⟨gb109, 3, none⟩) (Kd.S_mono HO_105000.out (fun k_ hk => (⟨hk, hk.1.1.2⟩ : _ ∧ k_ ≠ gb109))) (fun _ hk => hk.2) (.slice Ao28 y113.length co28)) (fun _ h_ => h_.1)))) hg hat); have n2_ := Aside0.mk (blk_grown (g := gb104) (o := .cells #[u105000, .bool ((rd_T34 l0 x4_1).f1)] 34 (0, 0)) (by (with_reducible repeat (first | refine blk_drewN ?_ _ | refine blk_drew ?_ | refine blk_alloc ?_ _)); refine blk_far ?_ NB104_109.out _; (with_reducible repeat (first | refine blk_drewN ?_ _ | refine blk_drew ?_ | refine blk_alloc ?_ _)); exact BK104.out) hg (by simp [Value.ownBlock])); have n3_ := Aside0.mk (blk_grown (g := gb108) (o := .cells #[.bool ((rd_T41 ((rd_T34 l0 x4_1).f0) x6_2).f0), .slice A107_1 ((rd_T41 ((rd_T34 l0 x4_1).f0) x6_2).f1).length c107_1, .int .i64 ((rd_T41 ((rd_T34 l0 x4_1).f0) x6_2).f2.f0), .slice A107_3 ((rd_T41 ((rd_T34 l0 x4_1).f0) x6_2).f2.f1).length c107_3, .slice A107_4 ((rd_T41 ((rd_T34 l0 x4_1).f0) x6_2).f2.f2).length c107_4, .slice A107_5 ((rd_T41 ((rd_T34 l0 x4_1).f0) x6_2).f2.f3).length c107_5] 41 (0, 0)) (by (with_reducible repeat (first | refine blk_drewN ?_ _ | refine blk_drew ?_ | refine blk_alloc ?_ _)); refine blk_far ?_ NB108_109.out _; (with_reducible repeat (first | refine blk_drewN ?_ _ | refine blk_drew ?_ | refine blk_alloc ?_ _)); exact BK108.out) hg (by simp [Value.ownBlock])); have n4_ := Aside0.mk (blk_grown (g := gb109) (o := .cells #[.bool ((rd_T41 ((rd_T34 l0 x4_1).f0) x6_2).f0), .slice Ao24 y110.length co24, .int .i64 ((rd_T41 ((rd_T34 l0 x4_1).f0) x6_2).f2.f0), .slice Ao28 y113.length co28, .slice none 0 0, .slice none 0 0] 41 (0, 0)) (by (with_reducible repeat (first | refine blk_drewN ?_ _ | refine blk_drew ?_ | refine blk_alloc ?_ _)); refine blk_put (cs := #[.bool ((rd_T41 ((rd_T34 l0 x4_1).f0) x6_2).f0), .slice Ao24 y110.length co24, .int .i64 ((rd_T41 ((rd_T34 l0 x4_1).f0) x6_2).f2.f0), .slice none 0 0, .slice none 0 0, .slice none 0 0]) ?_ 3 _ rfl; (with_reducible repeat (first | refine blk_drewN ?_ _ | refine blk_drew ?_ | refine blk_alloc ?_ _)); exact BK109.out) hg (by simp [Value.ownBlock])); have n5_ := Aside0.mk (Kd.R_grown (by (with_reducible repeat (first | apply Kd.R_alloc | apply Kd.R_drewN | apply Kd.R_drew)); exact (Kd.R_mono (Kd.R_far (p := ⟨gb109, 3, none⟩) (Kd.R_types HO112.out BK109.out (by decide)) (fun _ hk => hk.2) (.slice Ao28 y113.length co28)) (fun _ h_ => h_.1))) hg (fun _ _ => by simp [Value.ownBlock])); have n6_ := Aside0.mk (Kd.R_after (Kd.R_apart_nil (by (with_reducible repeat (first | apply Kd.R_alloc | apply Kd.R_drewN | apply Kd.R_drew)); exact (Kd.R_mono (Kd.R_far (p := ⟨gb109, 3, none⟩) (Kd.R_types HO115.out BK109.out (by decide)) (fun _ hk => hk.2) (.slice Ao28 y113.length co28)) (fun _ h_ => h_.1)))) hg hat); have n7_ := Aside0.mk (hb); have n8_ := Aside0.mk (ho); clear HO_3; clear HO_105000; clear BK104; clear BK108; clear BK109; clear HO112; clear HO115; clear HB; have HO_3 := n0_; have HO_105000 := n1_; have BK104 := n2_; have BK108 := n3_; have BK109 := n4_; have HO112 := n5_; have HO115 := n6_; have HB := n7_; have HO118 := n8_; clear n0_ n1_ n2_ n3_ n4_ n5_ n6_ n7_ n8_; clear ho hb hg hat; obtain ⟨Ao32, co32, eo32⟩ := Kd.R_slice HO118.out; subst eo32; have hcz33_0 : w31.cell? ⟨gb109, 0, none⟩ = some (.bool ((rd_T41 ((rd_T34 l0 x4_1).f0) x6_2).f0)) := (blk_cell BK109.out 0).trans rfl; have hcz33_1 : w31.cell? ⟨gb109, 1, none⟩ = some (.slice Ao24 y110.length co24) := (blk_cell BK109.out 1).trans rfl; have hcz33_2 : w31.cell? ⟨gb109, 2, none⟩ = some (.int .i64 ((rd_T41 ((rd_T34 l0 x4_1).f0) x6_2).f2.f0)) := (blk_cell BK109.out 2).trans rfl; have hcz33_3 : w31.cell? ⟨gb109, 3, none⟩ = some (.slice Ao28 y113.length co28) := (blk_cell BK109.out 3).trans rfl; have hcz33_4 : w31.cell? ⟨gb109, 4, none⟩ = some (.slice none 0 0) := (blk_cell BK109.out 4).trans rfl; have hcz33_5 : w31.cell? ⟨gb109, 5, none⟩ = some (.slice none 0 0) := (blk_cell BK109.out 5).trans rfl; have hfz33_0 := blk_frozen BK109.out 0; have hfz33_1 := blk_frozen BK109.out 1; have hfz33_2 := blk_frozen BK109.out 2; have hfz33_3 := blk_frozen BK109.out 3; have hfz33_4 := blk_frozen BK109.out 4; have hfz33_5 := blk_frozen BK109.out 5; have hcz34_0 : w31.cell? ⟨gb108, 0, none⟩ = some (.bool ((rd_T41 ((rd_T34 l0 x4_1).f0) x6_2).f0)) := (blk_cell BK108.out 0).trans rfl; have hcz34_1 : w31.cell? ⟨gb108, 1, none⟩ = some (.slice A107_1 ((rd_T41 ((rd_T34 l0 x4_1).f0) x6_2).f1).length c107_1) := (blk_cell BK108.out 1).trans rfl; have hcz34_2 : w31.cell? ⟨gb108, 2, none⟩ = some (.int .i64 ((rd_T41 ((rd_T34 l0 x4_1).f0) x6_2).f2.f0)) := (blk_cell BK108.out 2).trans rfl; have hcz34_3 : w31.cell? ⟨gb108, 3, none⟩ = some (.slice A107_3 ((rd_T41 ((rd_T34 l0 x4_1).f0) x6_2).f2.f1).length c107_3) := (blk_cell BK108.out 3).trans rfl; have hcz34_4 : w31.cell? ⟨gb108, 4, none⟩ = some (.slice A107_4 ((rd_T41 ((rd_T34 l0 x4_1).f0) x6_2).f2.f2).length c107_4) := (blk_cell BK108.out 4).trans rfl; have hcz34_5 : w31.cell? ⟨gb108, 5, none⟩ = some (.slice A107_5 ((rd_T41 ((rd_T34 l0 x4_1).f0) x6_2).f2.f3).length c107_5) := (blk_cell BK108.out 5).trans rfl; have hfz34_0 := blk_frozen BK108.out 0; have hfz34_1 := blk_frozen BK108.out 1; have hfz34_2 := blk_frozen BK108.out 2; have hfz34_3 := blk_frozen BK108.out 3; have hfz34_4 := blk_frozen BK108.out 4; have hfz34_5 := blk_frozen BK108.out 5) | ((with_reducible refine gate_builtin (b := .append) (xs := #[.tmp 73, .tmp 76]) rfl ?_); at_builtin; refine Kd.R_append_rows k75 (w0 := w) w.heap.size rfl (.tmp 73) (.tmp 76) 37 75 (.agg #[(.int .i64 0), (.bool false), (.int .i64 0), (.bool false)]) 32 rfl Tryd.underlying37 info75 rfl (by decide) (by omega) (.slice none 0 0) ([] : List (S75)) ((rd_T41 ((rd_T34 l0 x4_1).f0) x6_2).f2.f3) _ _ _ (fun _ => True) (fun _ => False) rfl rfl ?aO ?aR (fun _ _ h => h) (fun _ h => h.elim) ?aF ?aB ?aS ?aL ?_; (case aR => exact Kd.C_below HR107_5.out (by repeat (first | (with_reducible first | exact HB.out | apply below_alloc | apply pw_below_drewN | apply below_drew1 | refine below_set ?_ GE104.out | refine below_set ?_ GE108.out | refine below_set ?_ GE109.out) | exact HB.out))); (case aB => exact (by repeat (first | (with_reducible first | exact HB.out | apply below_alloc | apply pw_below_drewN | apply below_drew1 | refine below_set ?_ GE104.out | refine below_set ?_ GE108.out | refine below_set ?_ GE109.out) | exact HB.out))); (case aF => exact (fun _ _ => trivial)); (case aO => exact ((Kd.R_nil _ _ _ _ (fun _ => True)))); (case aS => exact (below_size (by repeat (first | (with_reducible first | exact HB.out | apply below_alloc | apply pw_below_drewN | apply below_drew1 | refine below_set ?_ GE104.out | refine below_set ?_ GE108.out | refine below_set ?_ GE109.out) | exact HB.out)))); (case aL => have := LMc13.out; omega); intro v120 w35 ho hb hg hat; rw [← Ny119.out] at ho; have n0_ := Aside0.mk (Kd.R_after (Kd.R_apart_nil (by (with_reducible repeat (first | apply Kd.R_alloc | apply Kd.R_drewN | apply Kd.R_drew)); exact (Kd.R_mono (Kd.R_far (p := ⟨gb109, 4, none⟩) (Kd.R_mono HO_3.out (fun k_ hk => (⟨hk, hk.1.1.1.2⟩ : _ ∧ k_ ≠ gb109))) (fun _ hk => hk.2) (.slice Ao32 y116.length co32)) (fun _ h_ => h_.1)))) hg hat); have n1_ := Aside0.mk (Kd.S_after (Kd.S_apart_nil (by (with_reducible repeat (first | apply Kd.S_alloc | apply Kd.S_drewN | apply Kd.S_drew)); exact (Kd.S_mono (Kd.S_far (p := ⟨gb109, 4, none⟩) (Kd.S_mono HO_105000.out (fun k_ hk => (⟨hk, hk.1.1.1.2⟩ : _ ∧ k_ ≠ gb109))) (fun _ hk => hk.2) (.slice Ao32 y116.length co32)) (fun _ h_ => h_.1)))) hg hat); have n2_ := Aside0.mk (blk_grown (g := gb104) (o := .cells #[u105000, .bool ((rd_T34 l0 x4_1).f1)] 34 (0, 0)) (by (with_reducible repeat (first | refine blk_drewN ?_ _ | refine blk_drew ?_ | refine blk_alloc ?_ _)); refine blk_far ?_ NB104_109.out _; (with_reducible repeat (first | refine blk_drewN ?_ _ | refine blk_drew ?_ | refine blk_alloc ?_ _)); exact BK104.out) hg (by simp [Value.ownBlock])); have n3_ := Aside0.mk (blk_grown (g := gb108) (o := .cells #[.bool ((rd_T41 ((rd_T34 l0 x4_1).f0) x6_2).f0), .slice A107_1 ((rd_T41 ((rd_T34 l0 x4_1).f0) x6_2).f1).length c107_1, .int .i64 ((rd_T41 ((rd_T34 l0 x4_1).f0) x6_2).f2.f0), .slice A107_3 ((rd_T41 ((rd_T34 l0 x4_1).f0) x6_2).f2.f1).length c107_3, .slice A107_4 ((rd_T41 ((rd_T34 l0 x4_1).f0) x6_2).f2.f2).length c107_4, .slice A107_5 ((rd_T41 ((rd_T34 l0 x4_1).f0) x6_2).f2.f3).length c107_5] 41 (0, 0)) (by (with_reducible repeat (first | refine blk_drewN ?_ _ | refine blk_drew ?_ | refine blk_alloc ?_ _)); refine blk_far ?_ NB108_109.out _; (with_reducible repeat (first | refine blk_drewN ?_ _ | refine blk_drew ?_ | refine blk_alloc ?_ _)); exact BK108.out) hg (by simp [Value.ownBlock])); have n4_ := Aside0.mk (blk_grown (g := gb109) (o := .cells #[.bool ((rd_T41 ((rd_T34 l0 x4_1).f0) x6_2).f0), .slice Ao24 y110.length co24, .int .i64 ((rd_T41 ((rd_T34 l0 x4_1).f0) x6_2).f2.f0), .slice Ao28 y113.length co28, .slice Ao32 y116.length co32, .slice none 0 0] 41 (0, 0)) (by (with_reducible repeat (first | refine blk_drewN ?_ _ | refine blk_drew ?_ | refine blk_alloc ?_ _)); refine blk_put (cs := #[.bool ((rd_T41 ((rd_T34 l0 x4_1).f0) x6_2).f0), .slice Ao24 y110.length co24, .int .i64 ((rd_T41 ((rd_T34 l0 x4_1).f0) x6_2).f2.f0), .slice Ao28 y113.length co28, .slice none 0 0, .slice none 0 0]) ?_ 4 _ rfl; (with_reducible repeat (first | refine blk_drewN ?_ _ | refine blk_drew ?_ | refine blk_alloc ?_ _)); exact BK109.out) hg (by simp [Value.ownBlock])); have n5_ := Aside0.mk (Kd.R_grown (by (with_reducible repeat (first | apply Kd.R_alloc | apply Kd.R_drewN | apply Kd.R_drew)); exact (Kd.R_mono (Kd.R_far (p := ⟨gb109, 4, none⟩) (Kd.R_types HO112.out BK109.out (by decide)) (fun _ hk => hk.2) (.slice Ao32 y116.length co32)) (fun _ h_ => h_.1))) hg (fun _ _ => by simp [Value.ownBlock])); have n6_ := Aside0.mk (Kd.R_grown (by (with_reducible repeat (first | apply Kd.R_alloc | apply Kd.R_drewN | apply Kd.R_drew)); exact (Kd.R_mono (Kd.R_far (p := ⟨gb109, 4, none⟩) (Kd.R_types HO115.out BK109.out (by decide)) (fun _ hk => hk.2) (.slice Ao32 y116.length co32)) (fun _ h_ => h_.1))) hg (fun _ _ => by simp [Value.ownBlock])); have n7_ := Aside0.mk (Kd.R_grown (by (with_reducible repeat (first | apply Kd.R_alloc | apply Kd.R_drewN | apply Kd.R_drew)); exact (Kd.R_mono (Kd.R_far (p := ⟨gb109, 4, none⟩) (Kd.R_types HO118.out BK109.out (by decide)) (fun _ hk => hk.2) (.slice Ao32 y116.length co32)) (fun _ h_ => h_.1))) hg (fun _ _ => by simp [Value.ownBlock])); have n8_ := Aside0.mk (hb); have n9_ := Aside0.mk (ho); clear HO_3; clear HO_105000; clear BK104; clear BK108; clear BK109; clear HO112; clear HO115; clear HO118; clear HB; have HO_3 := n0_; have HO_105000 := n1_; have BK104 := n2_; have BK108 := n3_; have BK109 := n4_; have HO112 := n5_; have HO115 := n6_; have HO118 := n7_; have HB := n8_; have HO121 := n9_; clear n0_ n1_ n2_ n3_ n4_ n5_ n6_ n7_ n8_ n9_; clear ho hb hg hat; obtain ⟨Ao36, co36, eo36⟩ := Kd.R_slice HO121.out; subst eo36; have hcz37_0 : w35.cell? ⟨gb109, 0, none⟩ = some (.bool ((rd_T41 ((rd_T34 l0 x4_1).f0) x6_2).f0)) := (blk_cell BK109.out 0).trans rfl; have hcz37_1 : w35.cell? ⟨gb109, 1, none⟩ = some (.slice Ao24 y110.length co24) := (blk_cell BK109.out 1).trans rfl; have hcz37_2 : w35.cell? ⟨gb109, 2, none⟩ = some (.int .i64 ((rd_T41 ((rd_T34 l0 x4_1).f0) x6_2).f2.f0)) := (blk_cell BK109.out 2).trans rfl; have hcz37_3 : w35.cell? ⟨gb109, 3, none⟩ = some (.slice Ao28 y113.length co28) := (blk_cell BK109.out 3).trans rfl; have hcz37_4 : w35.cell? ⟨gb109, 4, none⟩ = some (.slice Ao32 y116.length co32) := (blk_cell BK109.out 4).trans rfl; have hcz37_5 : w35.cell? ⟨gb109, 5, none⟩ = some (.slice none 0 0) := (blk_cell BK109.out 5).trans rfl; have hfz37_0 := blk_frozen BK109.out 0; have hfz37_1 := blk_frozen BK109.out 1; have hfz37_2 := blk_frozen BK109.out 2; have hfz37_3 := blk_frozen BK109.out 3; have hfz37_4 := blk_frozen BK109.out 4; have hfz37_5 := blk_frozen BK109.out 5) | ((with_reducible refine gate_store (t := 37) (p := 79) rfl ?_); refine store_event (t := 37) (p := 79) (v := ?vo_w38) (w1 := (w35.setCell ⟨gb109, 5, none⟩ (.slice Ao36 y119.length co36))) ?hg ?ho ?hn ?hr ?_; (case ho => rfl); (case hg => rfl); (case hn => rfl); (case hr => first | (go_simp; done) | (go_simp; rfl)); intro w38 hw; have n0_ : Aside0 (Kd.R k34 34 w38 w.heap.size (fun k_ => some k_ ≠ (u105000 : Value).ownBlock ∧ some k_ ≠ (.slice Ao24 y110.length co24 : Value).ownBlock ∧ some k_ ≠ (.slice Ao28 y113.length co28 : Value).ownBlock ∧ some k_ ≠ (.slice Ao32 y116.length co32 : Value).ownBlock ∧ some k_ ≠ (.slice Ao36 y119.length co36 : Value).ownBlock ∧ k_ ≠ gb104 ∧ k_ ≠ gb108 ∧ k_ ≠ gb109) u3 x3_1) := ⟨(by rw [hw]; exact (by (with_reducible repeat (first | apply Kd.R_alloc | apply Kd.R_drewN | apply Kd.R_drew)); exact Kd.R_mono (Kd.R_far (p := ⟨gb109, 5, none⟩) (Kd.R_mono HO_3.out (fun k_ hk => (⟨hk, hk.1.1.1.1.2⟩ : _ ∧ k_ ≠ gb109))) (fun _ hk => hk.2) (.slice Ao36 y119.length co36)) (fun _ hk => ⟨hk.1.1.1.1.1.1.1.1, ⟨hk.1.1.1.1.2, ⟨hk.1.1.1.2, ⟨hk.1.1.2, ⟨hk.1.2, ⟨hk.1.1.1.1.1.1.1.2, ⟨hk.1.1.1.1.1.1.2, hk.1.1.1.1.1.2⟩⟩⟩⟩⟩⟩⟩)))⟩; have n1_ : Aside0 (Kd.S k41 41 w38 w.heap.size (fun k_ => some k_ ≠ (.slice Ao24 y110.length co24 : Value).ownBlock ∧ some k_ ≠ (.slice Ao28 y113.length co28 : Value).ownBlock ∧ some k_ ≠ (.slice Ao32 y116.length co32 : Value).ownBlock ∧ some k_ ≠ (.slice Ao36 y119.length co36 : Value).ownBlock ∧ k_ ≠ gb108 ∧ k_ ≠ gb109) u105000 x105000_2) := ⟨(by rw [hw]; exact (by (with_reducible repeat (first | apply Kd.S_alloc | apply Kd.S_drewN | apply Kd.S_drew)); exact Kd.S_mono (Kd.S_far (p := ⟨gb109, 5, none⟩) (Kd.S_mono HO_105000.out (fun k_ hk => (⟨hk, hk.1.1.1.1.2⟩ : _ ∧ k_ ≠ gb109))) (fun _ hk => hk.2) (.slice Ao36 y119.length co36)) (fun _ hk => ⟨hk.1.1.1.1.2, ⟨hk.1.1.1.2, ⟨hk.1.1.2, ⟨hk.1.2, ⟨hk.1.1.1.1.1.1.2, hk.1.1.1.1.1.2⟩⟩⟩⟩⟩)))⟩; have n2_ : Aside0 (Kd.R (Kd.int .i64) 3 w38 w.heap.size (fun _ => True) (.slice Ao24 y110.length co24) y110) := ⟨(by rw [hw]; exact (by (with_reducible repeat (first | apply Kd.R_alloc | apply Kd.R_drewN | apply Kd.R_drew)); exact Kd.R_mono (Kd.R_far (p := ⟨gb109, 5, none⟩) (Kd.R_types HO112.out BK109.out (by decide)) (fun _ hk => hk.2) (.slice Ao36 y119.length co36)) (fun _ hk => trivial)))⟩; have n3_ : Aside0 (Kd.R k72 72 w38 w.heap.size (fun k_ => some k_ ≠ (.slice Ao32 y116.length co32 : Value).ownBlock) (.slice Ao28 y113.length co28) y113) := ⟨(by rw [hw]; exact (by (with_reducible repeat (first | apply Kd.R_alloc | apply Kd.R_drewN | apply Kd.R_drew)); exact Kd.R_mono (Kd.R_far (p := ⟨gb109, 5, none⟩) (Kd.R_types HO115.out BK109.out (by decide)) (fun _ hk => hk.2) (.slice Ao36 y119.length co36)) (fun _ hk => hk.1.2)))⟩; have n4_ : Aside0 (Kd.R k72 72 w38 w.heap.size (fun k_ => some k_ ≠ (.slice Ao28 y113.length co28 : Value).ownBlock) (.slice Ao32 y116.length co32) y116) := ⟨(by rw [hw]; exact (by (with_reducible repeat (first | apply Kd.R_alloc | apply Kd.R_drewN | apply Kd.R_drew)); exact Kd.R_mono (Kd.R_far (p := ⟨gb109, 5, none⟩) (Kd.R_types HO118.out BK109.out (by decide)) (fun _ hk => hk.2) (.slice Ao36 y119.length co36)) (fun _ hk => hk.1)))⟩; have n5_ : Aside0 (Kd.R k75 75 w38 w.heap.size (fun _ => True) (.slice Ao36 y119.length co36) y119) := ⟨(by rw [hw]; exact (by (with_reducible repeat (first | apply Kd.R_alloc | apply Kd.R_drewN | apply Kd.R_drew)); exact Kd.R_mono (Kd.R_far (p := ⟨gb109, 5, none⟩) (Kd.R_types HO121.out BK109.out (by decide)) (fun _ hk => hk.2) (.slice Ao36 y119.length co36)) (fun _ hk => trivial)))⟩; have n6_ : Aside0 (w38.heap[gb104]? = some (.cells #[u105000, .bool ((rd_T34 l0 x4_1).f1)] 34 (0, 0))) := ⟨(by rw [hw]; exact (by (with_reducible repeat (first | refine blk_drewN ?_ _ | refine blk_drew ?_ | refine blk_alloc ?_ _)); refine blk_far ?_ NB104_109.out _; (with_reducible repeat (first | refine blk_drewN ?_ _ | refine blk_drew ?_ | refine blk_alloc ?_ _)); exact BK104.out))⟩; have n7_ : Aside0 (w38.heap[gb108]? = some (.cells #[.bool ((rd_T41 ((rd_T34 l0 x4_1).f0) x6_2).f0), .slice A107_1 ((rd_T41 ((rd_T34 l0 x4_1).f0) x6_2).f1).length c107_1, .int .i64 ((rd_T41 ((rd_T34 l0 x4_1).f0) x6_2).f2.f0), .slice A107_3 ((rd_T41 ((rd_T34 l0 x4_1).f0) x6_2).f2.f1).length c107_3, .slice A107_4 ((rd_T41 ((rd_T34 l0 x4_1).f0) x6_2).f2.f2).length c107_4, .slice A107_5 ((rd_T41 ((rd_T34 l0 x4_1).f0) x6_2).f2.f3).length c107_5] 41 (0, 0))) := ⟨(by rw [hw]; exact (by (with_reducible repeat (first | refine blk_drewN ?_ _ | refine blk_drew ?_ | refine blk_alloc ?_ _)); refine blk_far ?_ NB108_109.out _; (with_reducible repeat (first | refine blk_drewN ?_ _ | refine blk_drew ?_ | refine blk_alloc ?_ _)); exact BK108.out))⟩; have n8_ : Aside0 (w38.heap[gb109]? = some (.cells #[.bool ((rd_T41 ((rd_T34 l0 x4_1).f0) x6_2).f0), .slice Ao24 y110.length co24, .int .i64 ((rd_T41 ((rd_T34 l0 x4_1).f0) x6_2).f2.f0), .slice Ao28 y113.length co28, .slice Ao32 y116.length co32, .slice Ao36 y119.length co36] 41 (0, 0))) := ⟨(by rw [hw]; exact (by (with_reducible repeat (first | refine blk_drewN ?_ _ | refine blk_drew ?_ | refine blk_alloc ?_ _)); refine blk_put (cs := #[.bool ((rd_T41 ((rd_T34 l0 x4_1).f0) x6_2).f0), .slice Ao24 y110.length co24, .int .i64 ((rd_T41 ((rd_T34 l0 x4_1).f0) x6_2).f2.f0), .slice Ao28 y113.length co28, .slice Ao32 y116.length co32, .slice none 0 0]) ?_ 5 _ rfl; (with_reducible repeat (first | refine blk_drewN ?_ _ | refine blk_drew ?_ | refine blk_alloc ?_ _)); exact BK109.out))⟩; have n9_ : Aside0 (Below w.heap.size w w38) := ⟨(by rw [hw]; exact (by repeat (first | (with_reducible first | exact HB.out | apply below_alloc | apply pw_below_drewN | apply below_drew1 | refine below_set ?_ GE104.out | refine below_set ?_ GE108.out | refine below_set ?_ GE109.out) | exact HB.out)))⟩; clear hw; clear HO_3; clear HO_105000; clear HO112; clear HO115; clear HO118; clear HO121; clear BK104; clear BK108; clear BK109; clear HB; have HO_3 := n0_; have HO_105000 := n1_; have HO112 := n2_; have HO115 := n3_; have HO118 := n4_; have HO121 := n5_; have BK104 := n6_; have BK108 := n7_; have BK109 := n8_; have HB := n9_; clear n0_ n1_ n2_ n3_ n4_ n5_ n6_ n7_ n8_ n9_; have hcz39_0 : w38.cell? ⟨gb104, 0, none⟩ = some (u105000) := (blk_cell BK104.out 0).trans rfl; have hcz39_1 : w38.cell? ⟨gb104, 1, none⟩ = some (.bool ((rd_T34 l0 x4_1).f1)) := (blk_cell BK104.out 1).trans rfl; have hfz39_0 := blk_frozen BK104.out 0; have hfz39_1 := blk_frozen BK104.out 1; have hcz40_0 : w38.cell? ⟨gb109, 0, none⟩ = some (.bool ((rd_T41 ((rd_T34 l0 x4_1).f0) x6_2).f0)) := (blk_cell BK109.out 0).trans rfl; have hcz40_1 : w38.cell? ⟨gb109, 1, none⟩ = some (.slice Ao24 y110.length co24) := (blk_cell BK109.out 1).trans rfl; have hcz40_2 : w38.cell? ⟨gb109, 2, none⟩ = some (.int .i64 ((rd_T41 ((rd_T34 l0 x4_1).f0) x6_2).f2.f0)) := (blk_cell BK109.out 2).trans rfl; have hcz40_3 : w38.cell? ⟨gb109, 3, none⟩ = some (.slice Ao28 y113.length co28) := (blk_cell BK109.out 3).trans rfl; have hcz40_4 : w38.cell? ⟨gb109, 4, none⟩ = some (.slice Ao32 y116.length co32) := (blk_cell BK109.out 4).trans rfl; have hcz40_5 : w38.cell? ⟨gb109, 5, none⟩ = some (.slice Ao36 y119.length co36) := (blk_cell BK109.out 5).trans rfl; have hfz40_0 := blk_frozen BK109.out 0; have hfz40_1 := blk_frozen BK109.out 1; have hfz40_2 := blk_frozen BK109.out 2; have hfz40_3 := blk_frozen BK109.out 3; have hfz40_4 := blk_frozen BK109.out 4; have hfz40_5 := blk_frozen BK109.out 5) | ((with_reducible refine gate_builtin (b := .append) (xs := #[.tmp 81, .tmp 83]) rfl ?_); at_builtin; refine Kd.S_append k41 (w0 := w) w.heap.size rfl (.tmp 81) (.tmp 83) 32 41 (.agg #[(.bool false), (.slice none 0 0), (.int .i64 0), (.slice none 0 0), (.slice none 0 0), (.slice none 0 0)]) 112 rfl Tryd.underlying32 info41 rfl (by decide) (by omega) u105000 x105000_2 (⟨(rd_T41 ((rd_T34 l0 x4_1).f0) x6_2).f0, y110, (⟨(rd_T41 ((rd_T34 l0 x4_1).f0) x6_2).f2.f0, y113, y116, y119⟩ : S39)⟩ : S41) [.bool ((rd_T41 ((rd_T34 l0 x4_1).f0) x6_2).f0), .slice Ao24 y110.length co24, .int .i64 ((rd_T41 ((rd_T34 l0 x4_1).f0) x6_2).f2.f0), .slice Ao28 y113.length co28, .slice Ao32 y116.length co32, .slice Ao36 y119.length co36] (fun k_ => k_ ≠ gb108 ∧ k_ ≠ gb109) (fun k_ => some k_ = (.slice Ao24 y110.length co24 : Value).ownBlock ∨ some k_ = (.slice Ao28 y113.length co28 : Value).ownBlock ∨ some k_ = (.slice Ao32 y116.length co32 : Value).ownBlock ∨ some k_ = (.slice Ao36 y119.length co36 : Value).ownBlock) rfl rfl ?aP (fun k_ hk_ => hk_.elim (fun h_ => ((Kd.R_mono (ok' := fun k_ => ((fun k_ => k_ ≠ gb108 ∧ k_ ≠ gb109)) k_ ∧ some k_ ≠ (u105000 : Value).ownBlock) (Kd.R_types (Kd.R_types (Kd.R_apart' (HO112.out) (Kd.S_typed HO_105000.out) (by decide)) BK108.out (by decide)) BK109.out (by decide)) (fun k_ hk => ⟨⟨hk.1.2, hk.2⟩, hk.1.1.2⟩))).1 k_ h_.symm) (fun h_ => h_.elim (fun h_ => ((Kd.R_mono (ok' := fun k_ => ((fun k_ => k_ ≠ gb108 ∧ k_ ≠ gb109)) k_ ∧ some k_ ≠ (u105000 : Value).ownBlock) (Kd.R_types (Kd.R_types (Kd.R_apart' (HO115.out) (Kd.S_typed HO_105000.out) (by decide)) BK108.out (by decide)) BK109.out (by decide)) (fun k_ hk => ⟨⟨hk.1.2, hk.2⟩, hk.1.1.2⟩))).1 k_ h_.symm) (fun h_ => h_.elim (fun h_ => ((Kd.R_mono (ok' := fun k_ => ((fun k_ => k_ ≠ gb108 ∧ k_ ≠ gb109)) k_ ∧ some k_ ≠ (u105000 : Value).ownBlock) (Kd.R_types (Kd.R_types (Kd.R_apart' (HO118.out) (Kd.S_typed HO_105000.out) (by decide)) BK108.out (by decide)) BK109.out (by decide)) (fun k_ hk => ⟨⟨hk.1.2, hk.2⟩, hk.1.1.2⟩))).1 k_ h_.symm) (fun h_ => ((Kd.R_mono (ok' := fun k_ => ((fun k_ => k_ ≠ gb108 ∧ k_ ≠ gb109)) k_ ∧ some k_ ≠ (u105000 : Value).ownBlock) (Kd.R_types (Kd.R_types (Kd.R_apart' (HO121.out) (Kd.S_typed HO_105000.out) (by decide)) BK108.out (by decide)) BK109.out (by decide)) (fun k_ hk => ⟨⟨hk.1.2, hk.2⟩, hk.1.1.2⟩))).1 k_ h_.symm)))) ?aF ?aO ?aB ?aS ?aL ?_; (case aP => exact k41_mkM _ _ _ (⟨(rd_T41 ((rd_T34 l0 x4_1).f0) x6_2).f0, y110, (⟨(rd_T41 ((rd_T34 l0 x4_1).f0) x6_2).f2.f0, y113, y116, y119⟩ : S39)⟩ : S41) (Kd.R_mono (Kd.R_tight rfl (Kd.R_mono (ok' := fun k_ => ((fun k_ => k_ ≠ gb108 ∧ k_ ≠ gb109)) k_ ∧ some k_ ≠ (u105000 : Value).ownBlock) (Kd.R_types (Kd.R_types (Kd.R_apart' (HO112.out) (Kd.S_typed HO_105000.out) (by decide)) BK108.out (by decide)) BK109.out (by decide)) (fun k_ hk => ⟨⟨hk.1.2, hk.2⟩, hk.1.1.2⟩))) (fun _ h_ => Or.inl h_)) (Kd.R_mono (Kd.R_tight rfl (Kd.R_mono (ok' := fun k_ => ((fun k_ => k_ ≠ gb108 ∧ k_ ≠ gb109)) k_ ∧ some k_ ≠ (u105000 : Value).ownBlock) (Kd.R_types (Kd.R_types (Kd.R_apart' (HO115.out) (Kd.S_typed HO_105000.out) (by decide)) BK108.out (by decide)) BK109.out (by decide)) (fun k_ hk => ⟨⟨hk.1.2, hk.2⟩, hk.1.1.2⟩))) (fun _ h_ => Or.inr (Or.inl h_))) (Kd.R_mono (Kd.R_tight rfl (Kd.R_mono (ok' := fun k_ => ((fun k_ => k_ ≠ gb108 ∧ k_ ≠ gb109)) k_ ∧ some k_ ≠ (u105000 : Value).ownBlock) (Kd.R_types (Kd.R_types (Kd.R_apart' (HO118.out) (Kd.S_typed HO_105000.out) (by decide)) BK108.out (by decide)) BK109.out (by decide)) (fun k_ hk => ⟨⟨hk.1.2, hk.2⟩, hk.1.1.2⟩))) (fun _ h_ => Or.inr (Or.inr (Or.inl h_)))) (Kd.R_mono (Kd.R_tight rfl (Kd.R_mono (ok' := fun k_ => ((fun k_ => k_ ≠ gb108 ∧ k_ ≠ gb109)) k_ ∧ some k_ ≠ (u105000 : Value).ownBlock) (Kd.R_types (Kd.R_types (Kd.R_apart' (HO121.out) (Kd.S_typed HO_105000.out) (by decide)) BK108.out (by decide)) BK109.out (by decide)) (fun k_ hk => ⟨⟨hk.1.2, hk.2⟩, hk.1.1.2⟩))) (fun _ h_ => Or.inr (Or.inr (Or.inr (h_)))))); (case aB => exact (by repeat (first | (with_reducible first | exact HB.out | apply below_alloc | apply pw_below_drewN | apply below_drew1 | refine below_set ?_ GE104.out | refine below_set ?_ GE108.out | refine below_set ?_ GE109.out) | exact HB.out))); (case aF => exact (fun k_ hk => ⟨Kd.freshB (g := gb108) (o := .cells #[.bool ((rd_T41 ((rd_T34 l0 x4_1).f0) x6_2).f0), .slice A107_1 ((rd_T41 ((rd_T34 l0 x4_1).f0) x6_2).f1).length c107_1, .int .i64 ((rd_T41 ((rd_T34 l0 x4_1).f0) x6_2).f2.f0), .slice A107_3 ((rd_T41 ((rd_T34 l0 x4_1).f0) x6_2).f2.f1).length c107_3, .slice A107_4 ((rd_T41 ((rd_T34 l0 x4_1).f0) x6_2).f2.f2).length c107_4, .slice A107_5 ((rd_T41 ((rd_T34 l0 x4_1).f0) x6_2).f2.f3).length c107_5] 41 (0, 0)) (by (with_reducible repeat (first | refine blk_drewN ?_ _ | refine blk_drew ?_ | refine blk_alloc ?_ _)); exact BK108.out) k_ hk, Kd.freshB (g := gb109) (o := .cells #[.bool ((rd_T41 ((rd_T34 l0 x4_1).f0) x6_2).f0), .slice Ao24 y110.length co24, .int .i64 ((rd_T41 ((rd_T34 l0 x4_1).f0) x6_2).f2.f0), .slice Ao28 y113.length co28, .slice Ao32 y116.length co32, .slice Ao36 y119.length co36] 41 (0, 0)) (by (with_reducible repeat (first | refine blk_drewN ?_ _ | refine blk_drew ?_ | refine blk_alloc ?_ _)); exact BK109.out) k_ hk⟩)); (case aO => exact (by (with_reducible repeat (first | apply Kd.S_alloc | apply Kd.S_drewN | apply Kd.S_drew)); exact Kd.S_mono HO_105000.out (fun k_ hk => ⟨⟨hk.2.2.2.2.1, hk.2.2.2.2.2⟩, fun e_ => e_.elim (fun h_ => hk.1 h_) (fun h_ => h_.elim (fun h_ => hk.2.1 h_) (fun h_ => h_.elim (fun h_ => hk.2.2.1 h_) (fun h_ => hk.2.2.2.1 h_)))⟩))); (case aS => exact (below_size (by repeat (first | (with_reducible first | exact HB.out | apply below_alloc | apply pw_below_drewN | apply below_drew1 | refine below_set ?_ GE104.out | refine below_set ?_ GE108.out | refine below_set ?_ GE109.out) | exact HB.out)))); (case aL => have := LMc14.out; omega); intro v123 w41 ho hb hg hat; rw [← Ny122.out] at ho; have n0_ := Aside0.mk (Kd.R_after (ok := (fun k_ => some k_ ≠ (.slice Ao24 y110.length co24 : Value).ownBlock ∧ some k_ ≠ (.slice Ao28 y113.length co28 : Value).ownBlock ∧ some k_ ≠ (.slice Ao32 y116.length co32 : Value).ownBlock ∧ some k_ ≠ (.slice Ao36 y119.length co36 : Value).ownBlock ∧ k_ ≠ gb104 ∧ k_ ≠ gb108 ∧ k_ ≠ gb109)) (by (with_reducible repeat (first | apply Kd.R_alloc | apply Kd.R_drewN | apply Kd.R_drew)); exact Kd.R_mono HO_3.out (fun _ hk => ⟨⟨hk.2.1, ⟨hk.2.2.1, ⟨hk.2.2.2.1, ⟨hk.2.2.2.2.1, ⟨hk.2.2.2.2.2.1, ⟨hk.2.2.2.2.2.2.1, hk.2.2.2.2.2.2.2⟩⟩⟩⟩⟩⟩, hk.1⟩)) hg hat); have n1_ := Aside0.mk (blk_grown (g := gb104) (o := .cells #[u105000, .bool ((rd_T34 l0 x4_1).f1)] 34 (0, 0)) (by (with_reducible repeat (first | refine blk_drewN ?_ _ | refine blk_drew ?_ | refine blk_alloc ?_ _)); exact BK104.out) hg (Kd.S_ne HO_105000.out BK104.out (by decide))); have n2_ := Aside0.mk (blk_grown (g := gb108) (o := .cells #[.bool ((rd_T41 ((rd_T34 l0 x4_1).f0) x6_2).f0), .slice A107_1 ((rd_T41 ((rd_T34 l0 x4_1).f0) x6_2).f1).length c107_1, .int .i64 ((rd_T41 ((rd_T34 l0 x4_1).f0) x6_2).f2.f0), .slice A107_3 ((rd_T41 ((rd_T34 l0 x4_1).f0) x6_2).f2.f1).length c107_3, .slice A107_4 ((rd_T41 ((rd_T34 l0 x4_1).f0) x6_2).f2.f2).length c107_4, .slice A107_5 ((rd_T41 ((rd_T34 l0 x4_1).f0) x6_2).f2.f3).length c107_5] 41 (0, 0)) (by (with_reducible repeat (first | refine blk_drewN ?_ _ | refine blk_drew ?_ | refine blk_alloc ?_ _)); exact BK108.out) hg (Kd.S_away HO_105000.out (fun _ hk => hk.2.2.2.2.1))); have n3_ := Aside0.mk (blk_grown (g := gb109) (o := .cells #[.bool ((rd_T41 ((rd_T34 l0 x4_1).f0) x6_2).f0), .slice Ao24 y110.length co24, .int .i64 ((rd_T41 ((rd_T34 l0 x4_1).f0) x6_2).f2.f0), .slice Ao28 y113.length co28, .slice Ao32 y116.length co32, .slice Ao36 y119.length co36] 41 (0, 0)) (by (with_reducible repeat (first | refine blk_drewN ?_ _ | refine blk_drew ?_ | refine blk_alloc ?_ _)); exact BK109.out) hg (Kd.S_away HO_105000.out (fun _ hk => hk.2.2.2.2.2))); have n4_ := Aside0.mk (hb); have n5_ := Aside0.mk (ho); clear HO_3; clear BK104; clear BK108; clear BK109; clear HB; clear HO_105000; clear HO112; clear HO115; clear HO118; clear HO121; have HO_3 := n0_; have BK104 := n1_; have BK108 := n2_; have BK109 := n3_; have HB := n4_; have HO124 := n5_; clear n0_ n1_ n2_ n3_ n4_ n5_; clear ho hb hg hat; obtain ⟨Ao42, co42, eo42⟩ := Kd.S_slice HO124.out; subst eo42; have hcz43_0 : w41.cell? ⟨gb104, 0, none⟩ = some (u105000) := (blk_cell BK104.out 0).trans rfl; have hcz43_1 : w41.cell? ⟨gb104, 1, none⟩ = some (.bool ((rd_T34 l0 x4_1).f1)) := (blk_cell BK104.out 1).trans rfl; have hfz43_0 := blk_frozen BK104.out 0; have hfz43_1 := blk_frozen BK104.out 1))
                                go_roundg k2
                                case measure => have := HK1.out; have := HK2.out; omega
                                case rel => exact ⟨(wrap64 (x6_2 + 1)), (y122), (.slice Ao42 y122.length co42), (by first | rfl | (simp; done) | (simp [*]; done)), H', ⟨by have := HK1.out; have := HK2.out; omega⟩, ⟨by (with_reducible repeat (first | apply Kd.R_alloc | apply Kd.R_drewN | apply Kd.R_drew)); exact Kd.R_mono (Kd.R_far (p := ⟨gb104, 0, none⟩) (Kd.R_mono HO_3.out (fun k_ hk => (⟨hk, hk.1.2.2.2.2.1⟩ : _ ∧ k_ ≠ gb104))) (fun _ hk => hk.2) (.slice Ao42 y122.length co42)) (fun _ hk => ⟨hk.1.2, hk.1.1.2.2.2.2.1⟩)⟩, ⟨by (with_reducible repeat (first | apply Kd.S_alloc | apply Kd.S_drewN | apply Kd.S_drew)); exact Kd.S_mono (Kd.S_far (p := ⟨gb104, 0, none⟩) (Kd.S_types HO124.out BK104.out (by decide)) (fun _ hk => hk.2) (.slice Ao42 y122.length co42)) (fun _ hk => trivial)⟩, ⟨by (with_reducible repeat (first | refine blk_drewN ?_ _ | refine blk_drew ?_ | refine blk_alloc ?_ _)); refine blk_put (cs := #[u105000, .bool ((rd_T34 l0 x4_1).f1)]) ?_ 0 _ rfl; (with_reducible repeat (first | refine blk_drewN ?_ _ | refine blk_drew ?_ | refine blk_alloc ?_ _)); exact BK104.out⟩, ⟨by repeat (first | (with_reducible first | exact HB.out | apply below_alloc | apply pw_below_drewN | apply below_drew1 | refine below_set ?_ GE104.out | refine below_set ?_ GE108.out | refine below_set ?_ GE109.out) | exact HB.out)⟩⟩
                              · rw [if_neg c14] at H
                                exact absurd H (by simp)
                            · rw [if_neg c13] at H
                              exact absurd H (by simp)
                          · rw [if_neg c12] at H
                            exact absurd H (by simp)
                        · rw [if_neg c11] at H
                          exact absurd H (by simp)
                      · rw [if_neg c10] at H
                        exact absurd H (by simp)
                    · rw [if_neg c9] at H
                      exact absurd H (by simp)
                  · rw [if_neg c8] at H
                    have c8b0 : decide (x6_2 < (((rd_T34 l0 x4_1).f0).length : Int)) = false := decide_eq_false c8
                    clear c8
                    by_cases c44 : x3_1.length < 4398046511104
                    · rw [if_pos c44] at H
                      have LMc44 := Aside0.mk c44
                      clear c44
                      obtain ⟨y125, hy125⟩ : ∃ y_ : List (S34), y_ = (x3_1 ++ [(⟨x105000_2, ((rd_T34 l0 x4_1).f1)⟩ : S34)]) := ⟨_, rfl⟩
                      replace H : (ratchetlaw06_own.l0 k2 l0 y125 (wrap64 (x4_1 + 1))) = some r := by first | (rw [hy125]; with_reducible exact H) | (have H2_ := (Option.bind_some _ _).symm.trans H; rw [hy125]; with_reducible exact H2_) | (have H2_ := (Option.bind_some _ _).symm.trans H; with_reducible exact H2_) | with_reducible exact H | (rw [hy125]; exact H) | exact H
                      have Ny125 := Aside0.mk hy125
                      clear hy125
                      have H' := Aside0.mk H
                      clear H
                      have p105 : 0 ≤ (x4_1 : Int) := of_decide_eq_true (by first | (with_reducible assumption) | assumption)
                      have q105 : x4_1 < (l0.length : Int) := of_decide_eq_true (by first | (with_reducible assumption) | assumption)
                      obtain ⟨ad105, A105_0, c105_0, e105, hx105_0, hx105_1, hl105_0, hi105_0⟩ := at_T34 HR0.out x4_1 p105 q105
                      obtain rfl : ad103 = ad105 := (by injection e105)
                      replace hx105_0 := (HB.out.cell (World.block_lt_of_cell? w _ hx105_0)).trans hx105_0
                      replace hx105_1 := (HB.out.cell (World.block_lt_of_cell? w _ hx105_1)).trans hx105_1
                      have HR105_0 := Aside0.mk hi105_0
                      have HC105_0 := Aside0.mk hl105_0
                      clear hi105_0 hl105_0
                      replace p105 := eq_true p105
                      replace q105 := eq_true q105
                      have hcz45_0 : wr.cell? ⟨gb104, 0, none⟩ = some (u105000) := (blk_cell BK104.out 0).trans rfl
                      have hcz45_1 : wr.cell? ⟨gb104, 1, none⟩ = some (.bool ((rd_T34 l0 x4_1).f1)) := (blk_cell BK104.out 1).trans rfl
                      have hfz45_0 := blk_frozen BK104.out 0
                      have hfz45_1 := blk_frozen BK104.out 1
                      obtain ⟨Ao47, co47, eo47⟩ := Kd.S_slice HO_105000.out
                      subst eo47
                      go_wp2_with (first | ((with_reducible refine gate_builtin (b := .append) (xs := #[.tmp 86, .tmp 88]) rfl ?_); at_builtin; refine Kd.R_append k34 (w0 := w) w.heap.size rfl (.tmp 86) (.tmp 88) 22 34 (.agg #[(.slice none 0 0), (.bool false)]) 32 rfl Tryd.underlying22 info34 rfl (by decide) (by omega) u3 x3_1 (⟨x105000_2, ((rd_T34 l0 x4_1).f1)⟩ : S34) [.slice Ao47 x105000_2.length co47, .bool ((rd_T34 l0 x4_1).f1)] (fun k_ => k_ ≠ gb104) (fun k_ => ((fun k_ => k_ ≠ gb104)) k_ ∧ some k_ ≠ (u3 : Value).ownBlock) rfl rfl ?aP (fun _ hk => hk) ?aF ?aO ?aB ?aS ?aL ?_; (case aP => exact k34_mkM _ _ _ (⟨x105000_2, ((rd_T34 l0 x4_1).f1)⟩ : S34) (Kd.R_mono (Kd.R_types (Kd.R_apart' ((Kd.S_R HO_105000.out)) (Kd.R_typed HO_3.out) (by decide)) BK104.out (by decide)) (fun k_ hk => ⟨hk.2, hk.1.2⟩))); (case aB => exact (by repeat (first | (with_reducible first | exact HB.out | apply below_alloc | apply pw_below_drewN | apply below_drew1 | refine below_set ?_ GE104.out) | exact HB.out))); (case aF => exact (fun k_ hk => Kd.freshB (g := gb104) (o := .cells #[.slice Ao47 x105000_2.length co47, .bool ((rd_T34 l0 x4_1).f1)] 34 (0, 0)) (by (with_reducible repeat (first | refine blk_drewN ?_ _ | refine blk_drew ?_ | refine blk_alloc ?_ _)); exact BK104.out) k_ hk)); (case aO => exact (by (with_reducible repeat (first | apply Kd.R_alloc | apply Kd.R_drewN | apply Kd.R_drew)); exact Kd.R_mono HO_3.out (fun _ hk => hk.2))); (case aS => exact (below_size (by repeat (first | (with_reducible first | exact HB.out | apply below_alloc | apply pw_below_drewN | apply below_drew1 | refine below_set ?_ GE104.out) | exact HB.out)))); (case aL => have := LMc44.out; omega); intro v126 w46 ho hb hg hat; rw [← Ny125.out] at ho; have n0_ := Aside0.mk (blk_grown (g := gb104) (o := .cells #[.slice Ao47 x105000_2.length co47, .bool ((rd_T34 l0 x4_1).f1)] 34 (0, 0)) (by (with_reducible repeat (first | refine blk_drewN ?_ _ | refine blk_drew ?_ | refine blk_alloc ?_ _)); exact BK104.out) hg (Kd.R_away HO_3.out (fun _ hk => hk.2))); have n1_ := Aside0.mk (hb); have n2_ := Aside0.mk (ho); clear BK104; clear HB; clear HO_3; clear HO_105000; have BK104 := n0_; have HB := n1_; have HO127 := n2_; clear n0_ n1_ n2_; clear ho hb hg hat))
                      go_roundg k2
                      case measure => have := HK1.out; have := HK2.out; omega
                      case rel => exact ⟨(y125), (wrap64 (x4_1 + 1)), (by first | rfl | (simp; done) | (simp [*]; done)), H', ⟨by have := HK1.out; have := HK2.out; omega⟩, ⟨by (with_reducible repeat (first | apply Kd.R_alloc | apply Kd.R_drewN | apply Kd.R_drew)); exact Kd.R_mono HO127.out (fun _ hk => trivial)⟩, ⟨by repeat (first | (with_reducible first | exact HB.out | apply below_alloc | apply pw_below_drewN | apply below_drew1 | refine below_set ?_ GE104.out) | exact HB.out)⟩⟩
                    · rw [if_neg c44] at H
                      exact absurd H (by simp)
                · rw [if_neg c7] at H
                  exact absurd H (by simp)
              · rw [if_neg c6] at H
                exact absurd H (by simp)
        · rw [if_neg c3] at H
          exact absurd H (by simp)
      · rw [if_neg c2] at H
        have c2b0 : decide (x4_1 < (l0.length : Int)) = false := decide_eq_false c2
        clear c2
        obtain rfl := Option.some.inj H
        go_wp2
        go_ret
        exact ⟨_, by first | rfl | (simp [errW_none, errW_some] <;> rfl) | (simp [*, errW_none, errW_some] <;> rfl), by (with_reducible repeat (first | apply Kd.R_alloc | apply Kd.R_drewN | apply Kd.R_drew)); exact HO_3.out, by repeat (first | (with_reducible first | exact HB.out | apply below_alloc | apply pw_below_drewN | apply below_drew1) | exact HB.out)⟩

/-! ### ratchetref05_heaps: function 33 -/
def ratchetref05_heaps.l0 : Nat → List (S72) → List Int → Int → Option (List Int)
  | 0, _, _, _ => none
  | k + 1, x0, x3, x4 => if x4 < (x0.length : Int) then (if 0 ≤ x4 then (if ((rd_T72 x0 x4).f0) = 5 then (if x3.length < 17592186044416 then (ratchetref05_heaps.l0 k x0 (x3 ++ [(rd_T72 x0 x4).f2]) (wrap64 (x4 + 1))) else (none)) else (ratchetref05_heaps.l0 k x0 x3 (wrap64 (x4 + 1)))) else (none)) else (some x3)
def ratchetref05_heaps.f (k : Nat) (l0 : List (S72)) : Option (List Int) := ratchetref05_heaps.l0 k l0 ([] : List Int) 0
theorem ratchetref05_heaps.mono_l : ∀ k, (∀ y0 y1 y2, LeO (ratchetref05_heaps.l0 k y0 y1 y2) (ratchetref05_heaps.l0 (k + 1) y0 y1 y2))
  | 0 => fun _ _ _ r h => by simp [ratchetref05_heaps.l0] at h
  | k + 1 => by
    have ih0 := ratchetref05_heaps.mono_l k
    · intro y0 y1 y2
      unfold ratchetref05_heaps.l0
      repeat' first
      | (with_reducible exact ih0 _ _ _)
      | (with_reducible exact LeO.refl _)
      | (with_reducible exact LeO.none _)
      | (with_reducible refine LeO.ite ?_ ?_)
      | (with_reducible refine LeO.bind ?_ (fun _ => ?_))
      | exact ih0 _ _ _
      | exact LeO.none _
      | refine LeO.ite ?_ ?_
      | refine LeO.bind ?_ (fun _ => ?_)
theorem ratchetref05_heaps.mono : ∀ a0 k, LeO (ratchetref05_heaps.f k a0) (ratchetref05_heaps.f (k + 1) a0) := by
  intro a0 k
  have ih0 := ratchetref05_heaps.mono_l k
  unfold ratchetref05_heaps.f
  repeat' first
      | (with_reducible exact ih0 _ _ _)
      | (with_reducible exact LeO.refl _)
      | (with_reducible exact LeO.none _)
      | (with_reducible refine LeO.ite ?_ ?_)
      | (with_reducible refine LeO.bind ?_ (fun _ => ?_))
      | exact ih0 _ _ _
      | exact LeO.none _
      | refine LeO.ite ?_ ?_
      | refine LeO.bind ?_ (fun _ => ?_)
set_option maxHeartbeats 8000000 in
set_option maxRecDepth 100000 in
theorem ratchetref05_heaps.calls (k : Nat) (A0 : Option Addr) (c0 : Nat) (l0 : List (S72)) (r : List Int) (w : World) (hr0 : Kd.C k72 w A0 l0.length l0) (hc0 : l0.length ≤ c0) (h : ratchetref05_heaps.f k l0 = some r) :
    Calls Tryd.prog 33 #[.slice A0 l0.length c0] w fun e w' => ∃ v0_ : Value, e = .returned (v0_) ∧ Kd.R (Kd.int .i64) 3 w' w.heap.size (fun _ => True) v0_ r ∧ Below w.heap.size w w' := by
  have HR0 := Aside0.mk hr0
  have HC0 := Aside0.mk hc0
  clear hr0 hc0
  have HB := Aside0.mk (Below.refl w.heap.size w)
  have H : (ratchetref05_heaps.l0 k l0 ([] : List Int) 0) = some r := h
  clear h
  have H' := Aside0.mk H
  clear H
  go_enter Tryd.func33, Tryd.ntmps33
  go_wp2
  go_loopg [3, 4] k (fun kq v3 v4 w' => ∃ (x3_1 : List Int) (x4_1 : Int), v4 = .int .i64 x4_1 ∧ Aside0 (ratchetref05_heaps.l0 kq l0 x3_1 x4_1 = some r) ∧ Aside0 (kq ≤ k) ∧ Aside0 (Kd.R (Kd.int .i64) 3 w' w.heap.size (fun _ => True) v3 x3_1) ∧ Aside0 (Below w.heap.size w w'))
  case atStart => exact ⟨(([] : List Int)), (0), (by first | rfl | (simp; done) | (simp [*]; done)), H', ⟨Nat.le_refl _⟩, ⟨by first | exact Kd.R_nil _ _ _ _ _ | exact Kd.N_nil _ _ _ _ _ | exact Kd.V_nil _ _ _ _ _ | exact Kd.Q_nil _ _ _ _ _ | exact Kd.S_nil _ _ _ _ _⟩, ⟨by repeat (first | (with_reducible first | exact HB.out | apply below_alloc | apply pw_below_drewN | apply below_drew1) | exact HB.out)⟩⟩
  case round =>
    clear H'
    obtain ⟨x3_1, x4_1, rfl, HA, HK1, HO_3, HB⟩ := hrel
    cases gk with
    | zero => exact absurd HA.out (by simp [ratchetref05_heaps.l0])
    | succ k1 =>
      have H := HA.out
      clear HA
      simp only [ratchetref05_heaps.l0] at H
      by_cases c2 : x4_1 < (l0.length : Int)
      · rw [if_pos c2] at H
        have c2b0 : decide (x4_1 < (l0.length : Int)) = true := decide_eq_true c2
        clear c2
        by_cases c3 : 0 ≤ x4_1
        · rw [if_pos c3] at H
          have c3b0 : decide (0 ≤ x4_1) = true := decide_eq_true c3
          clear c3
          by_cases c4 : ((rd_T72 l0 x4_1).f0) = 5
          · rw [if_pos c4] at H
            have c4b0 : (((rd_T72 l0 x4_1).f0) == 5) = true := beq_iff_eq.mpr c4
            have c4b1 : (((rd_T72 l0 x4_1).f0) != 5) = false := bne_eq_false_iff_eq.mpr c4
            clear c4
            by_cases c5 : x3_1.length < 17592186044416
            · rw [if_pos c5] at H
              have LMc5 := Aside0.mk c5
              clear c5
              obtain ⟨y130, hy130⟩ : ∃ y_ : List Int, y_ = (x3_1 ++ [(rd_T72 l0 x4_1).f2]) := ⟨_, rfl⟩
              replace H : (ratchetref05_heaps.l0 k1 l0 y130 (wrap64 (x4_1 + 1))) = some r := by first | (rw [hy130]; with_reducible exact H) | (have H2_ := (Option.bind_some _ _).symm.trans H; rw [hy130]; with_reducible exact H2_) | (have H2_ := (Option.bind_some _ _).symm.trans H; with_reducible exact H2_) | with_reducible exact H | (rw [hy130]; exact H) | exact H
              have Ny130 := Aside0.mk hy130
              clear hy130
              have H' := Aside0.mk H
              clear H
              have p128 : 0 ≤ (x4_1 : Int) := of_decide_eq_true (by first | (with_reducible assumption) | assumption)
              have q128 : x4_1 < (l0.length : Int) := of_decide_eq_true (by first | (with_reducible assumption) | assumption)
              obtain ⟨ad128, e128, hx128_0, hx128_1, hx128_2⟩ := at_T72 HR0.out x4_1 p128 q128
              cases e128
              replace hx128_0 := (HB.out.cell (World.block_lt_of_cell? w _ hx128_0)).trans hx128_0
              replace hx128_1 := (HB.out.cell (World.block_lt_of_cell? w _ hx128_1)).trans hx128_1
              replace hx128_2 := (HB.out.cell (World.block_lt_of_cell? w _ hx128_2)).trans hx128_2
              replace p128 := eq_true p128
              replace q128 := eq_true q128
              have p129 : 0 ≤ (x4_1 : Int) := of_decide_eq_true (by first | (with_reducible assumption) | assumption)
              have q129 : x4_1 < (l0.length : Int) := of_decide_eq_true (by first | (with_reducible assumption) | assumption)
              obtain ⟨ad129, e129, hx129_0, hx129_1, hx129_2⟩ := at_T72 HR0.out x4_1 p129 q129
              obtain rfl : ad128 = ad129 := (by injection e129)
              replace hx129_0 := (HB.out.cell (World.block_lt_of_cell? w _ hx129_0)).trans hx129_0
              replace hx129_1 := (HB.out.cell (World.block_lt_of_cell? w _ hx129_1)).trans hx129_1
              replace hx129_2 := (HB.out.cell (World.block_lt_of_cell? w _ hx129_2)).trans hx129_2
              replace p129 := eq_true p129
              replace q129 := eq_true q129
              go_wp2_with (first | ((with_reducible refine gate_builtin (b := .append) (xs := #[.tmp 17, .tmp 23]) rfl ?_); at_builtin; refine Kd.R_append (Kd.int .i64) (w0 := w) w.heap.size rfl (.tmp 17) (.tmp 23) 35 3 (.int .i64 0) 8 rfl Tryd.underlying35 info3 rfl (by decide) (by omega) u3 x3_1 ((rd_T72 l0 x4_1).f2) [.int .i64 ((rd_T72 l0 x4_1).f2)] (fun _ => True) (fun _ => False) rfl rfl ?aP (fun _ hk => hk.elim) ?aF ?aO ?aB ?aS ?aL ?_; (case aP => exact rfl); (case aB => exact (by repeat (first | (with_reducible first | exact HB.out | apply below_alloc | apply pw_below_drewN | apply below_drew1) | exact HB.out))); (case aF => exact (fun _ _ => trivial)); (case aO => exact (by (with_reducible repeat (first | apply Kd.R_alloc | apply Kd.R_drewN | apply Kd.R_drew)); exact HO_3.out)); (case aS => exact (below_size (by repeat (first | (with_reducible first | exact HB.out | apply below_alloc | apply pw_below_drewN | apply below_drew1) | exact HB.out)))); (case aL => have := LMc5.out; omega); intro v131 w6 ho hb hg hat; rw [← Ny130.out] at ho; have n0_ := Aside0.mk (hb); have n1_ := Aside0.mk (ho); clear HB; clear HO_3; have HB := n0_; have HO132 := n1_; clear n0_ n1_; clear ho hb hg hat))
              go_roundg k1
              case measure => have := HK1.out; omega
              case rel => exact ⟨(y130), (wrap64 (x4_1 + 1)), (by first | rfl | (simp; done) | (simp [*]; done)), H', ⟨by have := HK1.out; omega⟩, ⟨by (with_reducible repeat (first | apply Kd.R_alloc | apply Kd.R_drewN | apply Kd.R_drew)); exact HO132.out⟩, ⟨by repeat (first | (with_reducible first | exact HB.out | apply below_alloc | apply pw_below_drewN | apply below_drew1) | exact HB.out)⟩⟩
            · rw [if_neg c5] at H
              exact absurd H (by simp)
          · rw [if_neg c4] at H
            have c4b0 : (((rd_T72 l0 x4_1).f0) == 5) = false := beq_eq_false_iff_ne.mpr c4
            have c4b1 : (((rd_T72 l0 x4_1).f0) != 5) = true := bne_iff_ne.mpr c4
            have H' := Aside0.mk H
            clear H
            have p128 : 0 ≤ (x4_1 : Int) := of_decide_eq_true (by first | (with_reducible assumption) | assumption)
            have q128 : x4_1 < (l0.length : Int) := of_decide_eq_true (by first | (with_reducible assumption) | assumption)
            obtain ⟨ad128, e128, hx128_0, hx128_1, hx128_2⟩ := at_T72 HR0.out x4_1 p128 q128
            cases e128
            replace hx128_0 := (HB.out.cell (World.block_lt_of_cell? w _ hx128_0)).trans hx128_0
            replace hx128_1 := (HB.out.cell (World.block_lt_of_cell? w _ hx128_1)).trans hx128_1
            replace hx128_2 := (HB.out.cell (World.block_lt_of_cell? w _ hx128_2)).trans hx128_2
            replace p128 := eq_true p128
            replace q128 := eq_true q128
            go_wp2
            go_roundg k1
            case measure => have := HK1.out; omega
            case rel => exact ⟨(x3_1), (wrap64 (x4_1 + 1)), (by first | rfl | (simp; done) | (simp [*]; done)), H', ⟨by have := HK1.out; omega⟩, ⟨by (with_reducible repeat (first | apply Kd.R_alloc | apply Kd.R_drewN | apply Kd.R_drew)); exact HO_3.out⟩, ⟨by repeat (first | (with_reducible first | exact HB.out | apply below_alloc | apply pw_below_drewN | apply below_drew1) | exact HB.out)⟩⟩
        · rw [if_neg c3] at H
          exact absurd H (by simp)
      · rw [if_neg c2] at H
        have c2b0 : decide (x4_1 < (l0.length : Int)) = false := decide_eq_false c2
        clear c2
        obtain rfl := Option.some.inj H
        go_wp2
        go_ret
        exact ⟨_, by first | rfl | (simp [errW_none, errW_some] <;> rfl) | (simp [*, errW_none, errW_some] <;> rfl), by (with_reducible repeat (first | apply Kd.R_alloc | apply Kd.R_drewN | apply Kd.R_drew)); exact HO_3.out, by repeat (first | (with_reducible first | exact HB.out | apply below_alloc | apply pw_below_drewN | apply below_drew1) | exact HB.out)⟩

/-! ### ratchetref05_All: function 29 -/
def ratchetref05_All.l0 : Nat → List Int → Int → Bool → List Int → Int → List (S72) → List (S72) → List (S75) → Option (List Int)
  | 0, _, _, _, _, _, _, _, _ => none
  | k + 1, x3, x4, x134000, x134001, x134002, x134003, x134004, x134005 => if x4 < (x134005.length : Int) then (if 0 ≤ x4 then ((ratchetref05_heaps.f k (([(⟨(rd_T75 x134005 x4).f0.f0, (rd_T75 x134005 x4).f0.f1, (rd_T75 x134005 x4).f0.f2⟩ : S72)] : List (S72)))).bind fun t153 => (if x3.length + t153.length < 17592186044416 then (ratchetref05_All.l0 k (x3 ++ t153) (wrap64 (x4 + 1)) x134000 x134001 x134002 x134003 x134004 x134005) else (none))) else (none)) else (some x3)
def ratchetref05_All.f (k : Nat) (a0_0 : Bool) (l0_1 : List Int) (a0_2 : Int) (l0_3 : List (S72)) (l0_4 : List (S72)) (l0_5 : List (S75)) : Option (List Int) := if ([] : List Int).length + l0_1.length < 17592186044416 then ((some (([] : List Int) ++ l0_1 : List Int)).bind fun y134 => ((ratchetref05_heaps.f k l0_3).bind fun t137 => (if y134.length + t137.length < 17592186044416 then ((some (y134 ++ t137 : List Int)).bind fun y140 => ((ratchetref05_heaps.f k l0_4).bind fun t143 => (if y140.length + t143.length < 17592186044416 then (ratchetref05_All.l0 k (y140 ++ t143) 0 a0_0 l0_1 a0_2 l0_3 l0_4 l0_5) else (none)))) else (none)))) else (none)
theorem ratchetref05_All.mono_l : ∀ k, (∀ y0 y1 y2 y3 y4 y5 y6 y7, LeO (ratchetref05_All.l0 k y0 y1 y2 y3 y4 y5 y6 y7) (ratchetref05_All.l0 (k + 1) y0 y1 y2 y3 y4 y5 y6 y7))
  | 0 => fun _ _ _ _ _ _ _ _ r h => by simp [ratchetref05_All.l0] at h
  | k + 1 => by
    have ih0 := ratchetref05_All.mono_l k
    · intro y0 y1 y2 y3 y4 y5 y6 y7
      unfold ratchetref05_All.l0
      repeat' first
      | (with_reducible exact ih0 _ _ _ _ _ _ _ _)
      | (with_reducible exact ratchetref05_heaps.mono _ _)
      | (with_reducible exact LeO.refl _)
      | (with_reducible exact LeO.none _)
      | (with_reducible refine LeO.ite ?_ ?_)
      | (with_reducible refine LeO.bind ?_ (fun _ => ?_))
      | exact ih0 _ _ _ _ _ _ _ _
      | exact ratchetref05_heaps.mono _ _
      | exact LeO.none _
      | refine LeO.ite ?_ ?_
      | refine LeO.bind ?_ (fun _ => ?_)
theorem ratchetref05_All.mono : ∀ a0 a1 a2 a3 a4 a5 k, LeO (ratchetref05_All.f k a0 a1 a2 a3 a4 a5) (ratchetref05_All.f (k + 1) a0 a1 a2 a3 a4 a5) := by
  intro a0 a1 a2 a3 a4 a5 k
  have ih0 := ratchetref05_All.mono_l k
  unfold ratchetref05_All.f
  repeat' first
      | (with_reducible exact ih0 _ _ _ _ _ _ _ _)
      | (with_reducible exact ratchetref05_heaps.mono _ _)
      | (with_reducible exact LeO.refl _)
      | (with_reducible exact LeO.none _)
      | (with_reducible refine LeO.ite ?_ ?_)
      | (with_reducible refine LeO.bind ?_ (fun _ => ?_))
      | exact ih0 _ _ _ _ _ _ _ _
      | exact ratchetref05_heaps.mono _ _
      | exact LeO.none _
      | refine LeO.ite ?_ ?_
      | refine LeO.bind ?_ (fun _ => ?_)
set_option maxHeartbeats 8000000 in
set_option maxRecDepth 100000 in
theorem ratchetref05_All.calls (k : Nat) (a0_0 : Bool) (A0_1 : Option Addr) (c0_1 : Nat) (l0_1 : List Int) (a0_2 : Int) (A0_3 : Option Addr) (c0_3 : Nat) (l0_3 : List (S72)) (A0_4 : Option Addr) (c0_4 : Nat) (l0_4 : List (S72)) (A0_5 : Option Addr) (c0_5 : Nat) (l0_5 : List (S75)) (r : List Int) (w : World) (hr0_1 : Kd.C (Kd.int .i64) w A0_1 l0_1.length l0_1) (hc0_1 : l0_1.length ≤ c0_1) (hr0_3 : Kd.C k72 w A0_3 l0_3.length l0_3) (hc0_3 : l0_3.length ≤ c0_3) (hr0_4 : Kd.C k72 w A0_4 l0_4.length l0_4) (hc0_4 : l0_4.length ≤ c0_4) (hr0_5 : Kd.C k75 w A0_5 l0_5.length l0_5) (hc0_5 : l0_5.length ≤ c0_5) (h : ratchetref05_All.f k a0_0 l0_1 a0_2 l0_3 l0_4 l0_5 = some r) :
    Calls Tryd.prog 29 #[.agg #[.bool a0_0, .slice A0_1 l0_1.length c0_1, .int .i64 a0_2, .slice A0_3 l0_3.length c0_3, .slice A0_4 l0_4.length c0_4, .slice A0_5 l0_5.length c0_5]] w fun e w' => ∃ v0_ : Value, e = .returned (v0_) ∧ Kd.R (Kd.int .i64) 3 w' w.heap.size (fun _ => True) v0_ r ∧ Below w.heap.size w w' := by
  have hu41 := Tryd.underlying41
  have hu72 := Tryd.underlying72
  have HR0_1 := Aside0.mk hr0_1
  have HC0_1 := Aside0.mk hc0_1
  clear hr0_1 hc0_1
  have HR0_3 := Aside0.mk hr0_3
  have HC0_3 := Aside0.mk hc0_3
  clear hr0_3 hc0_3
  have HR0_4 := Aside0.mk hr0_4
  have HC0_4 := Aside0.mk hc0_4
  clear hr0_4 hc0_4
  have HR0_5 := Aside0.mk hr0_5
  have HC0_5 := Aside0.mk hc0_5
  clear hr0_5 hc0_5
  have HB := Aside0.mk (Below.refl w.heap.size w)
  have H : (if ([] : List Int).length + l0_1.length < 17592186044416 then ((some (([] : List Int) ++ l0_1 : List Int)).bind fun y134 => ((ratchetref05_heaps.f k l0_3).bind fun t137 => (if y134.length + t137.length < 17592186044416 then ((some (y134 ++ t137 : List Int)).bind fun y140 => ((ratchetref05_heaps.f k l0_4).bind fun t143 => (if y140.length + t143.length < 17592186044416 then (ratchetref05_All.l0 k (y140 ++ t143) 0 a0_0 l0_1 a0_2 l0_3 l0_4 l0_5) else (none)))) else (none)))) else (none)) = some r := h
  clear h
  by_cases c2 : ([] : List Int).length + l0_1.length < 17592186044416
  · rw [if_pos c2] at H
    have LMc2 := Aside0.mk c2
    clear c2
    obtain ⟨y134, hy134⟩ : ∃ y_ : List Int, y_ = (([] : List Int) ++ l0_1) := ⟨_, rfl⟩
    replace H : ((ratchetref05_heaps.f k l0_3).bind fun t137 => (if y134.length + t137.length < 17592186044416 then ((some (y134 ++ t137 : List Int)).bind fun y140 => ((ratchetref05_heaps.f k l0_4).bind fun t143 => (if y140.length + t143.length < 17592186044416 then (ratchetref05_All.l0 k (y140 ++ t143) 0 a0_0 l0_1 a0_2 l0_3 l0_4 l0_5) else (none)))) else (none))) = some r := by first | (rw [hy134]; with_reducible exact H) | (have H2_ := (Option.bind_some _ _).symm.trans H; rw [hy134]; with_reducible exact H2_) | (have H2_ := (Option.bind_some _ _).symm.trans H; with_reducible exact H2_) | with_reducible exact H | (rw [hy134]; exact H) | exact H
    have Ny134 := Aside0.mk hy134
    clear hy134
    replace H := Option.bind_eq_some_iff.mp H
    obtain ⟨t137, A30, H⟩ := H
    replace H : (if y134.length + t137.length < 17592186044416 then ((some (y134 ++ t137 : List Int)).bind fun y140 => ((ratchetref05_heaps.f k l0_4).bind fun t143 => (if y140.length + t143.length < 17592186044416 then (ratchetref05_All.l0 k (y140 ++ t143) 0 a0_0 l0_1 a0_2 l0_3 l0_4 l0_5) else (none)))) else (none)) = some r := H
    have A3 := Aside0.mk A30
    clear A30
    by_cases c4 : y134.length + t137.length < 17592186044416
    · rw [if_pos c4] at H
      have LMc4 := Aside0.mk c4
      clear c4
      obtain ⟨y140, hy140⟩ : ∃ y_ : List Int, y_ = (y134 ++ t137) := ⟨_, rfl⟩
      replace H : ((ratchetref05_heaps.f k l0_4).bind fun t143 => (if y140.length + t143.length < 17592186044416 then (ratchetref05_All.l0 k (y140 ++ t143) 0 a0_0 l0_1 a0_2 l0_3 l0_4 l0_5) else (none))) = some r := by first | (rw [hy140]; with_reducible exact H) | (have H2_ := (Option.bind_some _ _).symm.trans H; rw [hy140]; with_reducible exact H2_) | (have H2_ := (Option.bind_some _ _).symm.trans H; with_reducible exact H2_) | with_reducible exact H | (rw [hy140]; exact H) | exact H
      have Ny140 := Aside0.mk hy140
      clear hy140
      replace H := Option.bind_eq_some_iff.mp H
      obtain ⟨t143, A50, H⟩ := H
      replace H : (if y140.length + t143.length < 17592186044416 then (ratchetref05_All.l0 k (y140 ++ t143) 0 a0_0 l0_1 a0_2 l0_3 l0_4 l0_5) else (none)) = some r := H
      have A5 := Aside0.mk A50
      clear A50
      by_cases c6 : y140.length + t143.length < 17592186044416
      · rw [if_pos c6] at H
        have LMc6 := Aside0.mk c6
        clear c6
        obtain ⟨y146, hy146⟩ : ∃ y_ : List Int, y_ = (y140 ++ t143) := ⟨_, rfl⟩
        replace H : (ratchetref05_All.l0 k y146 0 a0_0 l0_1 a0_2 l0_3 l0_4 l0_5) = some r := by first | (rw [hy146]; with_reducible exact H) | (have H2_ := (Option.bind_some _ _).symm.trans H; rw [hy146]; with_reducible exact H2_) | (have H2_ := (Option.bind_some _ _).symm.trans H; with_reducible exact H2_) | with_reducible exact H | (rw [hy146]; exact H) | exact H
        have Ny146 := Aside0.mk hy146
        clear hy146
        have H' := Aside0.mk H
        clear H
        go_enter Tryd.func29, Tryd.ntmps29
        go_wp2_with (first | ((with_reducible refine gate_dst (N := 1) rfl ?_); refine box_event ?hg (N := 1) ?hd (cs := #[.bool a0_0, .slice A0_1 l0_1.length c0_1, .int .i64 a0_2, .slice A0_3 l0_3.length c0_3, .slice A0_4 l0_4.length c0_4, .slice A0_5 l0_5.length c0_5]) (t := 41) ?hr ?_; (case hd => rfl); (case hg => rfl); (case hr => first | (go_simp; done) | (go_simp; rfl)); intro gb133 hg w7 hbox hb; have n0_ := Aside0.mk (below_step (by repeat (first | (with_reducible first | exact HB.out | apply below_alloc | apply pw_below_drewN | apply below_drew1) | exact HB.out)) hb); have n1_ := Aside0.mk (hbox); have n2_ := Aside0.mk ((by rw [hg]; exact (below_size (by repeat (first | (with_reducible first | exact HB.out | apply below_alloc | apply pw_below_drewN | apply below_drew1) | exact HB.out))) : w.heap.size ≤ gb133)); have n3_ := Aside0.mk ((by rw [hg]; exact (below_size (by repeat (first | (with_reducible first | exact HB.out | apply below_alloc | apply pw_below_drewN | apply below_drew1) | exact HB.out))) : w.heap.size ≤ gb133)); clear HB; have HB := n0_; have BK133 := n1_; have GW133 := n2_; have GE133 := n3_; clear n0_ n1_ n2_ n3_; clear hb hbox hg; have hcz8_0 : w7.cell? ⟨gb133, 0, none⟩ = some (.bool a0_0) := (blk_cell BK133.out 0).trans rfl; have hcz8_1 : w7.cell? ⟨gb133, 1, none⟩ = some (.slice A0_1 l0_1.length c0_1) := (blk_cell BK133.out 1).trans rfl; have hcz8_2 : w7.cell? ⟨gb133, 2, none⟩ = some (.int .i64 a0_2) := (blk_cell BK133.out 2).trans rfl; have hcz8_3 : w7.cell? ⟨gb133, 3, none⟩ = some (.slice A0_3 l0_3.length c0_3) := (blk_cell BK133.out 3).trans rfl; have hcz8_4 : w7.cell? ⟨gb133, 4, none⟩ = some (.slice A0_4 l0_4.length c0_4) := (blk_cell BK133.out 4).trans rfl; have hcz8_5 : w7.cell? ⟨gb133, 5, none⟩ = some (.slice A0_5 l0_5.length c0_5) := (blk_cell BK133.out 5).trans rfl; have hfz8_0 := blk_frozen BK133.out 0; have hfz8_1 := blk_frozen BK133.out 1; have hfz8_2 := blk_frozen BK133.out 2; have hfz8_3 := blk_frozen BK133.out 3; have hfz8_4 := blk_frozen BK133.out 4; have hfz8_5 := blk_frozen BK133.out 5) | ((with_reducible refine gate_builtin (b := .append) (xs := #[.tmp 5, .tmp 7]) rfl ?_); at_builtin; refine Kd.R_append_rows (Kd.int .i64) (w0 := w) w.heap.size rfl (.tmp 5) (.tmp 7) 35 3 (.int .i64 0) 8 rfl Tryd.underlying35 info3 rfl (by decide) (by omega) (.slice none 0 0) ([] : List Int) l0_1 _ _ _ (fun _ => True) (fun _ => False) rfl rfl ?aO ?aR (fun _ _ h => h) (fun _ h => h.elim) ?aF ?aB ?aS ?aL ?_; (case aR => repeat (first | exact (Kd.C_below HR0_1.out HB.out) | (with_reducible refine Kd.C_alloc ?_ _) | (with_reducible refine Kd.C_drewN ?_ _) | (with_reducible refine Kd.C_drew ?_))); (case aB => exact (by repeat (first | (with_reducible first | exact HB.out | apply below_alloc | apply pw_below_drewN | apply below_drew1 | refine below_set ?_ GE133.out) | exact HB.out))); (case aF => exact (fun _ _ => trivial)); (case aO => exact ((Kd.R_nil _ _ _ _ (fun _ => True)))); (case aS => exact (below_size (by repeat (first | (with_reducible first | exact HB.out | apply below_alloc | apply pw_below_drewN | apply below_drew1 | refine below_set ?_ GE133.out) | exact HB.out)))); (case aL => have := LMc2.out; omega); intro v135 w9 ho hb hg hat; rw [← Ny134.out] at ho; have n0_ := Aside0.mk (blk_grown (g := gb133) (o := .cells #[.bool a0_0, .slice A0_1 l0_1.length c0_1, .int .i64 a0_2, .slice A0_3 l0_3.length c0_3, .slice A0_4 l0_4.length c0_4, .slice A0_5 l0_5.length c0_5] 41 (0, 0)) (by (with_reducible repeat (first | refine blk_drewN ?_ _ | refine blk_drew ?_ | refine blk_alloc ?_ _)); exact BK133.out) hg (by simp [Value.ownBlock])); have n1_ := Aside0.mk (hb); have n2_ := Aside0.mk (ho); clear BK133; clear HB; have BK133 := n0_; have HB := n1_; have HO136 := n2_; clear n0_ n1_ n2_; clear ho hb hg hat; have hcz10_0 : w9.cell? ⟨gb133, 0, none⟩ = some (.bool a0_0) := (blk_cell BK133.out 0).trans rfl; have hcz10_1 : w9.cell? ⟨gb133, 1, none⟩ = some (.slice A0_1 l0_1.length c0_1) := (blk_cell BK133.out 1).trans rfl; have hcz10_2 : w9.cell? ⟨gb133, 2, none⟩ = some (.int .i64 a0_2) := (blk_cell BK133.out 2).trans rfl; have hcz10_3 : w9.cell? ⟨gb133, 3, none⟩ = some (.slice A0_3 l0_3.length c0_3) := (blk_cell BK133.out 3).trans rfl; have hcz10_4 : w9.cell? ⟨gb133, 4, none⟩ = some (.slice A0_4 l0_4.length c0_4) := (blk_cell BK133.out 4).trans rfl; have hcz10_5 : w9.cell? ⟨gb133, 5, none⟩ = some (.slice A0_5 l0_5.length c0_5) := (blk_cell BK133.out 5).trans rfl; have hfz10_0 := blk_frozen BK133.out 0; have hfz10_1 := blk_frozen BK133.out 1; have hfz10_2 := blk_frozen BK133.out 2; have hfz10_3 := blk_frozen BK133.out 3; have hfz10_4 := blk_frozen BK133.out 4; have hfz10_5 := blk_frozen BK133.out 5) | ((with_reducible refine gate_callee (f := 33) rfl ?_); refine goesL_ (some 13) rfl rfl Tryd.func33 (by kernel_rfl) rfl #[.slice A0_3 l0_3.length c0_3] rfl (by (try simp only [List.map_toArray, List.map_cons, List.map_nil]); first | done | rfl | (simp only [List.length_drop, List.length_take]; rfl)) ?_; (with_reducible refine (ratchetref05_heaps.calls k _ _ l0_3 t137 _ ?side1 ?side2 A3.out).mono ?_); (case side1 => repeat (first | exact (Kd.C_below HR0_3.out HB.out) | (with_reducible refine Kd.C_alloc ?_ _) | (with_reducible refine Kd.C_drewN ?_ _) | (with_reducible refine Kd.C_drew ?_))); (case side2 => exact HC0_3.out); rintro e w11 ⟨v138, rfl, ho0, hb⟩; refine ⟨_, rfl, ?_⟩; have n0_ := Aside0.mk (Kd.R_elder' (by (with_reducible repeat (first | apply Kd.R_alloc | apply Kd.R_drewN | apply Kd.R_drew)); exact HO136.out) (Kd.R_base ho0) hb); have n1_ := Aside0.mk (Kd.R_lower (Kd.R_new' ho0 (Kd.R_lt (by (with_reducible repeat (first | apply Kd.R_alloc | apply Kd.R_drewN | apply Kd.R_drew)); exact HO136.out))) (below_size (by repeat (first | (with_reducible first | exact HB.out | apply below_alloc | apply pw_below_drewN | apply below_drew1 | refine below_set ?_ GE133.out) | exact HB.out)))); have n2_ := Aside0.mk (blk_below (g := gb133) (o := .cells #[.bool a0_0, .slice A0_1 l0_1.length c0_1, .int .i64 a0_2, .slice A0_3 l0_3.length c0_3, .slice A0_4 l0_4.length c0_4, .slice A0_5 l0_5.length c0_5] 41 (0, 0)) (by (with_reducible repeat (first | refine blk_drewN ?_ _ | refine blk_drew ?_ | refine blk_alloc ?_ _)); exact BK133.out) hb); have n3_ := Aside0.mk (below_step (by repeat (first | (with_reducible first | exact HB.out | apply below_alloc | apply pw_below_drewN | apply below_drew1 | refine below_set ?_ GE133.out) | exact HB.out)) hb); clear HO136; clear BK133; clear HB; have HO136 := n0_; have HO139 := n1_; have BK133 := n2_; have HB := n3_; clear n0_ n1_ n2_ n3_; (try clear hb); (try clear hb2); (try clear hk); (try clear hi); (try clear ho0); obtain ⟨Ao13, co13, eo13⟩ := Kd.R_slice HO139.out; subst eo13) | ((with_reducible refine gate_builtin (b := .append) (xs := #[.tmp 9, .tmp 13]) rfl ?_); at_builtin; refine Kd.R_append_rows (Kd.int .i64) (w0 := w) w.heap.size rfl (.tmp 9) (.tmp 13) 35 3 (.int .i64 0) 8 rfl Tryd.underlying35 info3 rfl (by decide) (by omega) v135 y134 t137 _ _ _ (fun k_ => some k_ ≠ (.slice Ao13 t137.length co13 : Value).ownBlock) (fun _ => False) rfl rfl ?aO ?aR (fun _ _ h => h) (fun _ h => h.elim) ?aF ?aB ?aS ?aL ?_; (case aR => repeat (first | exact (Kd.R_reads' HO139.out).2.2 | (with_reducible refine Kd.C_alloc ?_ _) | (with_reducible refine Kd.C_drewN ?_ _) | (with_reducible refine Kd.C_drew ?_))); (case aB => exact (by repeat (first | (with_reducible first | exact HB.out | apply below_alloc | apply pw_below_drewN | apply below_drew1 | refine below_set ?_ GE133.out) | exact HB.out))); (case aF => exact (fun k_ hk => Kd.fresh' (Kd.R_lt (by (with_reducible repeat (first | apply Kd.R_alloc | apply Kd.R_drewN | apply Kd.R_drew)); exact HO139.out)) k_ hk)); (case aO => exact (by (with_reducible repeat (first | apply Kd.R_alloc | apply Kd.R_drewN | apply Kd.R_drew)); exact Kd.R_mono HO136.out (fun _ hk => hk.2))); (case aS => exact (below_size (by repeat (first | (with_reducible first | exact HB.out | apply below_alloc | apply pw_below_drewN | apply below_drew1 | refine below_set ?_ GE133.out) | exact HB.out)))); (case aL => have := LMc4.out; omega); intro v141 w12 ho hb hg hat; rw [← Ny140.out] at ho; have n0_ := Aside0.mk (blk_grown (g := gb133) (o := .cells #[.bool a0_0, .slice A0_1 l0_1.length c0_1, .int .i64 a0_2, .slice A0_3 l0_3.length c0_3, .slice A0_4 l0_4.length c0_4, .slice A0_5 l0_5.length c0_5] 41 (0, 0)) (by (with_reducible repeat (first | refine blk_drewN ?_ _ | refine blk_drew ?_ | refine blk_alloc ?_ _)); exact BK133.out) hg (Kd.R_ne HO136.out BK133.out (by decide))); have n1_ := Aside0.mk (Kd.R_after (ok := (fun _ => True)) (by (with_reducible repeat (first | apply Kd.R_alloc | apply Kd.R_drewN | apply Kd.R_drew)); exact HO139.out) hg hat); have n2_ := Aside0.mk (hb); have n3_ := Aside0.mk (ho); clear BK133; clear HO139; clear HB; clear HO136; have BK133 := n0_; have HO139 := n1_; have HB := n2_; have HO142 := n3_; clear n0_ n1_ n2_ n3_; clear ho hb hg hat; have hcz14_0 : w12.cell? ⟨gb133, 0, none⟩ = some (.bool a0_0) := (blk_cell BK133.out 0).trans rfl; have hcz14_1 : w12.cell? ⟨gb133, 1, none⟩ = some (.slice A0_1 l0_1.length c0_1) := (blk_cell BK133.out 1).trans rfl; have hcz14_2 : w12.cell? ⟨gb133, 2, none⟩ = some (.int .i64 a0_2) := (blk_cell BK133.out 2).trans rfl; have hcz14_3 : w12.cell? ⟨gb133, 3, none⟩ = some (.slice A0_3 l0_3.length c0_3) := (blk_cell BK133.out 3).trans rfl; have hcz14_4 : w12.cell? ⟨gb133, 4, none⟩ = some (.slice A0_4 l0_4.length c0_4) := (blk_cell BK133.out 4).trans rfl; have hcz14_5 : w12.cell? ⟨gb133, 5, none⟩ = some (.slice A0_5 l0_5.length c0_5) := (blk_cell BK133.out 5).trans rfl; have hfz14_0 := blk_frozen BK133.out 0; have hfz14_1 := blk_frozen BK133.out 1; have hfz14_2 := blk_frozen BK133.out 2; have hfz14_3 := blk_frozen BK133.out 3; have hfz14_4 := blk_frozen BK133.out 4; have hfz14_5 := blk_frozen BK133.out 5) | ((with_reducible refine gate_callee (f := 33) rfl ?_); refine goesL_ (some 19) rfl rfl Tryd.func33 (by kernel_rfl) rfl #[.slice A0_4 l0_4.length c0_4] rfl (by (try simp only [List.map_toArray, List.map_cons, List.map_nil]); first | done | rfl | (simp only [List.length_drop, List.length_take]; rfl)) ?_; (with_reducible refine (ratchetref05_heaps.calls k _ _ l0_4 t143 _ ?side1 ?side2 A5.out).mono ?_); (case side1 => repeat (first | exact (Kd.C_below HR0_4.out HB.out) | (with_reducible refine Kd.C_alloc ?_ _) | (with_reducible refine Kd.C_drewN ?_ _) | (with_reducible refine Kd.C_drew ?_))); (case side2 => exact HC0_4.out); rintro e w15 ⟨v144, rfl, ho0, hb⟩; refine ⟨_, rfl, ?_⟩; have n0_ := Aside0.mk (Kd.R_elder' (by (with_reducible repeat (first | apply Kd.R_alloc | apply Kd.R_drewN | apply Kd.R_drew)); exact HO139.out) (Kd.R_base ho0) hb); have n1_ := Aside0.mk (Kd.R_elder' (by (with_reducible repeat (first | apply Kd.R_alloc | apply Kd.R_drewN | apply Kd.R_drew)); exact HO142.out) (Kd.R_base ho0) hb); have n2_ := Aside0.mk (Kd.R_lower (Kd.R_new' (Kd.R_new' ho0 (Kd.R_lt (by (with_reducible repeat (first | apply Kd.R_alloc | apply Kd.R_drewN | apply Kd.R_drew)); exact HO139.out))) (Kd.R_lt (by (with_reducible repeat (first | apply Kd.R_alloc | apply Kd.R_drewN | apply Kd.R_drew)); exact HO142.out))) (below_size (by repeat (first | (with_reducible first | exact HB.out | apply below_alloc | apply pw_below_drewN | apply below_drew1 | refine below_set ?_ GE133.out) | exact HB.out)))); have n3_ := Aside0.mk (blk_below (g := gb133) (o := .cells #[.bool a0_0, .slice A0_1 l0_1.length c0_1, .int .i64 a0_2, .slice A0_3 l0_3.length c0_3, .slice A0_4 l0_4.length c0_4, .slice A0_5 l0_5.length c0_5] 41 (0, 0)) (by (with_reducible repeat (first | refine blk_drewN ?_ _ | refine blk_drew ?_ | refine blk_alloc ?_ _)); exact BK133.out) hb); have n4_ := Aside0.mk (below_step (by repeat (first | (with_reducible first | exact HB.out | apply below_alloc | apply pw_below_drewN | apply below_drew1 | refine below_set ?_ GE133.out) | exact HB.out)) hb); clear HO139; clear HO142; clear BK133; clear HB; have HO139 := n0_; have HO142 := n1_; have HO145 := n2_; have BK133 := n3_; have HB := n4_; clear n0_ n1_ n2_ n3_ n4_; (try clear hb); (try clear hb2); (try clear hk); (try clear hi); (try clear ho0); obtain ⟨Ao17, co17, eo17⟩ := Kd.R_slice HO145.out; subst eo17) | ((with_reducible refine gate_builtin (b := .append) (xs := #[.tmp 15, .tmp 19]) rfl ?_); at_builtin; refine Kd.R_append_rows (Kd.int .i64) (w0 := w) w.heap.size rfl (.tmp 15) (.tmp 19) 35 3 (.int .i64 0) 8 rfl Tryd.underlying35 info3 rfl (by decide) (by omega) v141 y140 t143 _ _ _ (fun k_ => some k_ ≠ (.slice Ao13 t137.length co13 : Value).ownBlock ∧ some k_ ≠ (.slice Ao17 t143.length co17 : Value).ownBlock) (fun _ => False) rfl rfl ?aO ?aR (fun _ _ h => h) (fun _ h => h.elim) ?aF ?aB ?aS ?aL ?_; (case aR => repeat (first | exact (Kd.R_reads' HO145.out).2.2 | (with_reducible refine Kd.C_alloc ?_ _) | (with_reducible refine Kd.C_drewN ?_ _) | (with_reducible refine Kd.C_drew ?_))); (case aB => exact (by repeat (first | (with_reducible first | exact HB.out | apply below_alloc | apply pw_below_drewN | apply below_drew1 | refine below_set ?_ GE133.out) | exact HB.out))); (case aF => exact (fun k_ hk => ⟨Kd.fresh' (Kd.R_lt (by (with_reducible repeat (first | apply Kd.R_alloc | apply Kd.R_drewN | apply Kd.R_drew)); exact HO139.out)) k_ hk, Kd.fresh' (Kd.R_lt (by (with_reducible repeat (first | apply Kd.R_alloc | apply Kd.R_drewN | apply Kd.R_drew)); exact HO145.out)) k_ hk⟩)); (case aO => exact (by (with_reducible repeat (first | apply Kd.R_alloc | apply Kd.R_drewN | apply Kd.R_drew)); exact HO142.out)); (case aS => exact (below_size (by repeat (first | (with_reducible first | exact HB.out | apply below_alloc | apply pw_below_drewN | apply below_drew1 | refine below_set ?_ GE133.out) | exact HB.out)))); (case aL => have := LMc6.out; omega); intro v147 w16 ho hb hg hat; rw [← Ny146.out] at ho; have n0_ := Aside0.mk (blk_grown (g := gb133) (o := .cells #[.bool a0_0, .slice A0_1 l0_1.length c0_1, .int .i64 a0_2, .slice A0_3 l0_3.length c0_3, .slice A0_4 l0_4.length c0_4, .slice A0_5 l0_5.length c0_5] 41 (0, 0)) (by (with_reducible repeat (first | refine blk_drewN ?_ _ | refine blk_drew ?_ | refine blk_alloc ?_ _)); exact BK133.out) hg (Kd.R_ne HO142.out BK133.out (by decide))); have n1_ := Aside0.mk (Kd.R_after (ok := (fun k_ => some k_ ≠ (.slice Ao17 t143.length co17 : Value).ownBlock)) (by (with_reducible repeat (first | apply Kd.R_alloc | apply Kd.R_drewN | apply Kd.R_drew)); exact Kd.R_mono HO139.out (fun _ hk => ⟨hk.2, hk.1.2⟩)) hg hat); have n2_ := Aside0.mk (Kd.R_after (ok := (fun k_ => some k_ ≠ (.slice Ao13 t137.length co13 : Value).ownBlock)) (by (with_reducible repeat (first | apply Kd.R_alloc | apply Kd.R_drewN | apply Kd.R_drew)); exact Kd.R_mono HO145.out (fun _ hk => ⟨hk.1.2, hk.2⟩)) hg hat); have n3_ := Aside0.mk (hb); have n4_ := Aside0.mk (ho); clear BK133; clear HO139; clear HO145; clear HB; clear HO142; have BK133 := n0_; have HO139 := n1_; have HO145 := n2_; have HB := n3_; have HO148 := n4_; clear n0_ n1_ n2_ n3_ n4_; clear ho hb hg hat))
        go_loopg [3, 4] k (fun kq v3 v4 w' => ∃ (x3_1 : List Int) (x4_1 : Int), v4 = .int .i64 x4_1 ∧ Aside0 (ratchetref05_All.l0 kq x3_1 x4_1 a0_0 l0_1 a0_2 l0_3 l0_4 l0_5 = some r) ∧ Aside0 (kq ≤ k) ∧ Aside0 (Kd.R (Kd.int .i64) 3 w' w.heap.size (fun _ => True) v3 x3_1) ∧ Aside0 (w'.heap[gb133]? = some (.cells #[.bool a0_0, (.slice A0_1 l0_1.length c0_1), .int .i64 a0_2, (.slice A0_3 l0_3.length c0_3), (.slice A0_4 l0_4.length c0_4), (.slice A0_5 l0_5.length c0_5)] 41 (0, 0))) ∧ Aside0 (Below w.heap.size w w'))
        case atStart => exact ⟨(y146), (0), (by first | rfl | (simp; done) | (simp [*]; done)), H', ⟨Nat.le_refl _⟩, ⟨by (with_reducible repeat (first | apply Kd.R_alloc | apply Kd.R_drewN | apply Kd.R_drew)); exact Kd.R_mono HO148.out (fun _ hk => trivial)⟩, ⟨by (with_reducible repeat (first | refine blk_drewN ?_ _ | refine blk_drew ?_ | refine blk_alloc ?_ _)); exact BK133.out⟩, ⟨by repeat (first | (with_reducible first | exact HB.out | apply below_alloc | apply pw_below_drewN | apply below_drew1 | refine below_set ?_ GE133.out) | exact HB.out)⟩⟩
        case round =>
          clear H'
          try clear c2
          try clear p2
          try clear c3
          try clear c4
          try clear c6
          try clear hcz10_0
          try clear hcz10_1
          try clear hcz10_2
          try clear hcz10_3
          try clear hcz10_4
          try clear hcz10_5
          try clear hcz14_0
          try clear hcz14_1
          try clear hcz14_2
          try clear hcz14_3
          try clear hcz14_4
          try clear hcz14_5
          try clear hcz8_0
          try clear hcz8_1
          try clear hcz8_2
          try clear hcz8_3
          try clear hcz8_4
          try clear hcz8_5
          try clear hfz10_0
          try clear hfz10_1
          try clear hfz10_2
          try clear hfz10_3
          try clear hfz10_4
          try clear hfz10_5
          try clear hfz14_0
          try clear hfz14_1
          try clear hfz14_2
          try clear hfz14_3
          try clear hfz14_4
          try clear hfz14_5
          try clear hfz8_0
          try clear hfz8_1
          try clear hfz8_2
          try clear hfz8_3
          try clear hfz8_4
          try clear hfz8_5
          obtain ⟨x3_1, x4_1, rfl, HA, HK1, HO_3, BK133, HB⟩ := hrel
          cases gk with
          | zero => exact absurd HA.out (by simp [ratchetref05_All.l0])
          | succ k1 =>
            have H := HA.out
            clear HA
            simp only [ratchetref05_All.l0] at H
            by_cases c18 : x4_1 < (l0_5.length : Int)
            · rw [if_pos c18] at H
              have c18b0 : decide (x4_1 < (l0_5.length : Int)) = true := decide_eq_true c18
              clear c18
              by_cases c19 : 0 ≤ x4_1
              · rw [if_pos c19] at H
                have c19b0 : decide (0 ≤ x4_1) = true := decide_eq_true c19
                clear c19
                obtain ⟨y150, hy150⟩ : ∃ y_ : List (S72), y_ = (([(⟨(rd_T75 l0_5 x4_1).f0.f0, (rd_T75 l0_5 x4_1).f0.f1, (rd_T75 l0_5 x4_1).f0.f2⟩ : S72)] : List (S72))) := ⟨_, rfl⟩
                replace H : ((ratchetref05_heaps.f k1 y150).bind fun t153 => (if x3_1.length + t153.length < 17592186044416 then (ratchetref05_All.l0 k1 (x3_1 ++ t153) (wrap64 (x4_1 + 1)) a0_0 l0_1 a0_2 l0_3 l0_4 l0_5) else (none))) = some r := by first | (rw [hy150]; with_reducible exact H) | (have H2_ := (Option.bind_some _ _).symm.trans H; rw [hy150]; with_reducible exact H2_) | (have H2_ := (Option.bind_some _ _).symm.trans H; with_reducible exact H2_) | with_reducible exact H | (rw [hy150]; exact H) | exact H
                have Ny150 := Aside0.mk hy150
                clear hy150
                replace H := Option.bind_eq_some_iff.mp H
                obtain ⟨t153, A200, H⟩ := H
                replace H : (if x3_1.length + t153.length < 17592186044416 then (ratchetref05_All.l0 k1 (x3_1 ++ t153) (wrap64 (x4_1 + 1)) a0_0 l0_1 a0_2 l0_3 l0_4 l0_5) else (none)) = some r := H
                have A20 := Aside0.mk A200
                clear A200
                by_cases c21 : x3_1.length + t153.length < 17592186044416
                · rw [if_pos c21] at H
                  have LMc21 := Aside0.mk c21
                  clear c21
                  obtain ⟨y156, hy156⟩ : ∃ y_ : List Int, y_ = (x3_1 ++ t153) := ⟨_, rfl⟩
                  replace H : (ratchetref05_All.l0 k1 y156 (wrap64 (x4_1 + 1)) a0_0 l0_1 a0_2 l0_3 l0_4 l0_5) = some r := by first | (rw [hy156]; with_reducible exact H) | (have H2_ := (Option.bind_some _ _).symm.trans H; rw [hy156]; with_reducible exact H2_) | (have H2_ := (Option.bind_some _ _).symm.trans H; with_reducible exact H2_) | with_reducible exact H | (rw [hy156]; exact H) | exact H
                  have Ny156 := Aside0.mk hy156
                  clear hy156
                  have H' := Aside0.mk H
                  clear H
                  have hcz22_0 : wr.cell? ⟨gb133, 0, none⟩ = some (.bool a0_0) := (blk_cell BK133.out 0).trans rfl
                  have hcz22_1 : wr.cell? ⟨gb133, 1, none⟩ = some (.slice A0_1 l0_1.length c0_1) := (blk_cell BK133.out 1).trans rfl
                  have hcz22_2 : wr.cell? ⟨gb133, 2, none⟩ = some (.int .i64 a0_2) := (blk_cell BK133.out 2).trans rfl
                  have hcz22_3 : wr.cell? ⟨gb133, 3, none⟩ = some (.slice A0_3 l0_3.length c0_3) := (blk_cell BK133.out 3).trans rfl
                  have hcz22_4 : wr.cell? ⟨gb133, 4, none⟩ = some (.slice A0_4 l0_4.length c0_4) := (blk_cell BK133.out 4).trans rfl
                  have hcz22_5 : wr.cell? ⟨gb133, 5, none⟩ = some (.slice A0_5 l0_5.length c0_5) := (blk_cell BK133.out 5).trans rfl
                  have hfz22_0 := blk_frozen BK133.out 0
                  have hfz22_1 := blk_frozen BK133.out 1
                  have hfz22_2 := blk_frozen BK133.out 2
                  have hfz22_3 := blk_frozen BK133.out 3
                  have hfz22_4 := blk_frozen BK133.out 4
                  have hfz22_5 := blk_frozen BK133.out 5
                  have p149 : 0 ≤ (x4_1 : Int) := of_decide_eq_true (by first | (with_reducible assumption) | assumption)
                  have q149 : x4_1 < (l0_5.length : Int) := of_decide_eq_true (by first | (with_reducible assumption) | assumption)
                  obtain ⟨ad149, e149, hx149_0, hx149_1, hx149_2, hx149_3⟩ := at_T75 HR0_5.out x4_1 p149 q149
                  cases e149
                  replace hx149_0 := (HB.out.cell (World.block_lt_of_cell? w _ hx149_0)).trans hx149_0
                  replace hx149_1 := (HB.out.cell (World.block_lt_of_cell? w _ hx149_1)).trans hx149_1
                  replace hx149_2 := (HB.out.cell (World.block_lt_of_cell? w _ hx149_2)).trans hx149_2
                  replace hx149_3 := (HB.out.cell (World.block_lt_of_cell? w _ hx149_3)).trans hx149_3
                  replace p149 := eq_true p149
                  replace q149 := eq_true q149
                  go_wp2_with (first | ((with_reducible refine gate_dst (N := 37) rfl ?_); refine Kd.R_lit k72 _ 72 ?hg (N := 37) ?hd (xs := ([(⟨(rd_T75 l0_5 x4_1).f0.f0, (rd_T75 l0_5 x4_1).f0.f1, (rd_T75 l0_5 x4_1).f0.f2⟩ : S72)] : List (S72))) (inner := [.int .i64 ((rd_T75 l0_5 x4_1).f0.f0), .bool ((rd_T75 l0_5 x4_1).f0.f1), .int .i64 ((rd_T75 l0_5 x4_1).f0.f2)]) (ok := fun _ => True) (okp := fun _ => True) ?hr ?hp (fun _ hk => hk) trivial (Below.refl _ _) (Nat.le_refl _) (by simp) ?_; (case hd => rfl); (case hg => rfl); (case hr => first | (go_simp; done) | (go_simp; rfl)); (case hp => exact (Reps.c3 (show Kd.M k72 _ _ _ (⟨(rd_T75 l0_5 x4_1).f0.f0, (rd_T75 l0_5 x4_1).f0.f1, (rd_T75 l0_5 x4_1).f0.f2⟩ : S72) [.int .i64 ((rd_T75 l0_5 x4_1).f0.f0), .bool ((rd_T75 l0_5 x4_1).f0.f1), .int .i64 ((rd_T75 l0_5 x4_1).f0.f2)] from (k72_mkM _ _ _ (⟨(rd_T75 l0_5 x4_1).f0.f0, (rd_T75 l0_5 x4_1).f0.f1, (rd_T75 l0_5 x4_1).f0.f2⟩ : S72) )) (Reps.none _ _))); intro v151 w23 ho24 hb hg_ hnew_; clear hg_ hnew_; (first | rw [← Ny150.out] at ho24 | (simp only [Int.reduceToNat] at ho24; rw [← Ny150.out] at ho24)); have n0_ := Aside0.mk (Kd.R_below (by (with_reducible repeat (first | apply Kd.R_alloc | apply Kd.R_drewN | apply Kd.R_drew)); exact HO_3.out) hb); have n1_ := Aside0.mk (Kd.R_lower ho24 (below_size (by repeat (first | (with_reducible first | exact HB.out | apply below_alloc | apply pw_below_drewN | apply below_drew1 | refine below_set ?_ GE133.out) | exact HB.out)))); have n2_ := Aside0.mk (blk_below (g := gb133) (o := .cells #[.bool a0_0, .slice A0_1 l0_1.length c0_1, .int .i64 a0_2, .slice A0_3 l0_3.length c0_3, .slice A0_4 l0_4.length c0_4, .slice (some ad149) l0_5.length c0_5] 41 (0, 0)) (by (with_reducible repeat (first | refine blk_drewN ?_ _ | refine blk_drew ?_ | refine blk_alloc ?_ _)); exact BK133.out) hb); have n3_ := Aside0.mk (below_step (by repeat (first | (with_reducible first | exact HB.out | apply below_alloc | apply pw_below_drewN | apply below_drew1 | refine below_set ?_ GE133.out) | exact HB.out)) hb); clear HO_3; clear BK133; clear HB; have HO_3 := n0_; have HO152 := n1_; have BK133 := n2_; have HB := n3_; clear n0_ n1_ n2_ n3_; clear hb ho24; obtain ⟨Ao25, co25, eo25⟩ := Kd.R_slice HO152.out; subst eo25) | ((with_reducible refine gate_callee (f := 33) rfl ?_); refine goesL_ (some 38) rfl rfl Tryd.func33 (by kernel_rfl) rfl #[.slice Ao25 y150.length co25] rfl (by (try simp only [List.map_toArray, List.map_cons, List.map_nil]); first | done | rfl | (simp only [List.length_drop, List.length_take]; rfl)) ?_; (with_reducible refine (ratchetref05_heaps.calls k1 _ _ y150 t153 _ ?side1 ?side2 A20.out).mono ?_); (case side1 => repeat (first | exact (Kd.R_reads' HO152.out).2.2 | (with_reducible refine Kd.C_alloc ?_ _) | (with_reducible refine Kd.C_drewN ?_ _) | (with_reducible refine Kd.C_drew ?_))); (case side2 => exact (Kd.R_reads' HO152.out).2.1); rintro e w26 ⟨v154, rfl, ho0, hb⟩; refine ⟨_, rfl, ?_⟩; have n0_ := Aside0.mk (Kd.R_elder' (by (with_reducible repeat (first | apply Kd.R_alloc | apply Kd.R_drewN | apply Kd.R_drew)); exact HO_3.out) (Kd.R_base ho0) hb); have n1_ := Aside0.mk (Kd.R_below (by (with_reducible repeat (first | apply Kd.R_alloc | apply Kd.R_drewN | apply Kd.R_drew)); exact HO152.out) hb); have n2_ := Aside0.mk (Kd.R_lower (Kd.R_new' ho0 (Kd.R_lt (by (with_reducible repeat (first | apply Kd.R_alloc | apply Kd.R_drewN | apply Kd.R_drew)); exact HO_3.out))) (below_size (by repeat (first | (with_reducible first | exact HB.out | apply below_alloc | apply pw_below_drewN | apply below_drew1 | refine below_set ?_ GE133.out) | exact HB.out)))); have n3_ := Aside0.mk (blk_below (g := gb133) (o := .cells #[.bool a0_0, .slice A0_1 l0_1.length c0_1, .int .i64 a0_2, .slice A0_3 l0_3.length c0_3, .slice A0_4 l0_4.length c0_4, .slice (some ad149) l0_5.length c0_5] 41 (0, 0)) (by (with_reducible repeat (first | refine blk_drewN ?_ _ | refine blk_drew ?_ | refine blk_alloc ?_ _)); exact BK133.out) hb); have n4_ := Aside0.mk (below_step (by repeat (first | (with_reducible first | exact HB.out | apply below_alloc | apply pw_below_drewN | apply below_drew1 | refine below_set ?_ GE133.out) | exact HB.out)) hb); clear HO_3; clear HO152; clear BK133; clear HB; have HO_3 := n0_; have HO152 := n1_; have HO155 := n2_; have BK133 := n3_; have HB := n4_; clear n0_ n1_ n2_ n3_ n4_; (try clear hb); (try clear hb2); (try clear hk); (try clear hi); (try clear ho0); obtain ⟨Ao28, co28, eo28⟩ := Kd.R_slice HO155.out; subst eo28) | ((with_reducible refine gate_builtin (b := .append) (xs := #[.tmp 29, .tmp 38]) rfl ?_); at_builtin; refine Kd.R_append_rows (Kd.int .i64) (w0 := w) w.heap.size rfl (.tmp 29) (.tmp 38) 35 3 (.int .i64 0) 8 rfl Tryd.underlying35 info3 rfl (by decide) (by omega) u3 x3_1 t153 _ _ _ (fun k_ => some k_ ≠ (.slice Ao28 t153.length co28 : Value).ownBlock) (fun _ => False) rfl rfl ?aO ?aR (fun _ _ h => h) (fun _ h => h.elim) ?aF ?aB ?aS ?aL ?_; (case aR => repeat (first | exact (Kd.R_reads' HO155.out).2.2 | (with_reducible refine Kd.C_alloc ?_ _) | (with_reducible refine Kd.C_drewN ?_ _) | (with_reducible refine Kd.C_drew ?_))); (case aB => exact (by repeat (first | (with_reducible first | exact HB.out | apply below_alloc | apply pw_below_drewN | apply below_drew1 | refine below_set ?_ GE133.out) | exact HB.out))); (case aF => exact (fun k_ hk => Kd.fresh' (Kd.R_lt (by (with_reducible repeat (first | apply Kd.R_alloc | apply Kd.R_drewN | apply Kd.R_drew)); exact HO155.out)) k_ hk)); (case aO => exact (by (with_reducible repeat (first | apply Kd.R_alloc | apply Kd.R_drewN | apply Kd.R_drew)); exact Kd.R_mono HO_3.out (fun _ hk => hk.2))); (case aS => exact (below_size (by repeat (first | (with_reducible first | exact HB.out | apply below_alloc | apply pw_below_drewN | apply below_drew1 | refine below_set ?_ GE133.out) | exact HB.out)))); (case aL => have := LMc21.out; omega); intro v157 w27 ho hb hg hat; rw [← Ny156.out] at ho; have n0_ := Aside0.mk (blk_grown (g := gb133) (o := .cells #[.bool a0_0, .slice A0_1 l0_1.length c0_1, .int .i64 a0_2, .slice A0_3 l0_3.length c0_3, .slice A0_4 l0_4.length c0_4, .slice (some ad149) l0_5.length c0_5] 41 (0, 0)) (by (with_reducible repeat (first | refine blk_drewN ?_ _ | refine blk_drew ?_ | refine blk_alloc ?_ _)); exact BK133.out) hg (Kd.R_ne HO_3.out BK133.out (by decide))); have n1_ := Aside0.mk (Kd.R_over' (by (with_reducible repeat (first | apply Kd.R_alloc | apply Kd.R_drewN | apply Kd.R_drew)); exact HO152.out) (Kd.R_typed (by (with_reducible repeat (first | apply Kd.R_alloc | apply Kd.R_drewN | apply Kd.R_drew)); exact HO_3.out)) (by decide) hg); have n2_ := Aside0.mk (Kd.R_after (ok := (fun _ => True)) (by (with_reducible repeat (first | apply Kd.R_alloc | apply Kd.R_drewN | apply Kd.R_drew)); exact HO155.out) hg hat); have n3_ := Aside0.mk (hb); have n4_ := Aside0.mk (ho); clear BK133; clear HO152; clear HO155; clear HB; clear HO_3; have BK133 := n0_; have HO152 := n1_; have HO155 := n2_; have HB := n3_; have HO158 := n4_; clear n0_ n1_ n2_ n3_ n4_; clear ho hb hg hat))
                  go_roundg k1
                  case measure => have := HK1.out; omega
                  case rel => exact ⟨(y156), (wrap64 (x4_1 + 1)), (by first | rfl | (simp; done) | (simp [*]; done)), H', ⟨by have := HK1.out; omega⟩, ⟨by (with_reducible repeat (first | apply Kd.R_alloc | apply Kd.R_drewN | apply Kd.R_drew)); exact Kd.R_mono HO158.out (fun _ hk => trivial)⟩, ⟨by (with_reducible repeat (first | refine blk_drewN ?_ _ | refine blk_drew ?_ | refine blk_alloc ?_ _)); exact BK133.out⟩, ⟨by repeat (first | (with_reducible first | exact HB.out | apply below_alloc | apply pw_below_drewN | apply below_drew1 | refine below_set ?_ GE133.out) | exact HB.out)⟩⟩
                · rw [if_neg c21] at H
                  exact absurd H (by simp)
              · rw [if_neg c19] at H
                exact absurd H (by simp)
            · rw [if_neg c18] at H
              have c18b0 : decide (x4_1 < (l0_5.length : Int)) = false := decide_eq_false c18
              clear c18
              obtain rfl := Option.some.inj H
              have hcz29_0 : wr.cell? ⟨gb133, 0, none⟩ = some (.bool a0_0) := (blk_cell BK133.out 0).trans rfl
              have hcz29_1 : wr.cell? ⟨gb133, 1, none⟩ = some (.slice A0_1 l0_1.length c0_1) := (blk_cell BK133.out 1).trans rfl
              have hcz29_2 : wr.cell? ⟨gb133, 2, none⟩ = some (.int .i64 a0_2) := (blk_cell BK133.out 2).trans rfl
              have hcz29_3 : wr.cell? ⟨gb133, 3, none⟩ = some (.slice A0_3 l0_3.length c0_3) := (blk_cell BK133.out 3).trans rfl
              have hcz29_4 : wr.cell? ⟨gb133, 4, none⟩ = some (.slice A0_4 l0_4.length c0_4) := (blk_cell BK133.out 4).trans rfl
              have hcz29_5 : wr.cell? ⟨gb133, 5, none⟩ = some (.slice A0_5 l0_5.length c0_5) := (blk_cell BK133.out 5).trans rfl
              have hfz29_0 := blk_frozen BK133.out 0
              have hfz29_1 := blk_frozen BK133.out 1
              have hfz29_2 := blk_frozen BK133.out 2
              have hfz29_3 := blk_frozen BK133.out 3
              have hfz29_4 := blk_frozen BK133.out 4
              have hfz29_5 := blk_frozen BK133.out 5
              go_wp2
              go_ret
              exact ⟨_, by first | rfl | (simp [errW_none, errW_some] <;> rfl) | (simp [*, errW_none, errW_some] <;> rfl), by (with_reducible repeat (first | apply Kd.R_alloc | apply Kd.R_drewN | apply Kd.R_drew)); exact HO_3.out, by repeat (first | (with_reducible first | exact HB.out | apply below_alloc | apply pw_below_drewN | apply below_drew1 | refine below_set ?_ GE133.out) | exact HB.out)⟩
      · rw [if_neg c6] at H
        exact absurd H (by simp)
    · rw [if_neg c4] at H
      exact absurd H (by simp)
  · rw [if_neg c2] at H
    exact absurd H (by simp)

end Go.Proofs.YtbobgajkboanfaaDoor.PCanonSames
