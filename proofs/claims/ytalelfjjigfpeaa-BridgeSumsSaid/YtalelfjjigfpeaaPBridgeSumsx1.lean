-- PRINTED BY print.sh 35421559b90ae4d0a3588c463048766b98c2df88dd9212a6774a882060cdf62d: not written by this session
import Derived.Test.YtalelfjjigfpeaaPBridgeSumsx0
namespace Go.Proofs.Ytalelfjjigfpeaa.PBridgeSums
open Go.RowKit Go.Proofs.YtalelfjjigfpeaaW.PrintWords Go.Proofs.YtalelfjjigfpeaaW.PrintLast Go.Proofs.YtalelfjjigfpeaaW.PrintMore
attribute [local go_sem] max2_int min2_int max_two min_two max_three min_three max_four min_four   -- for this text's walks alone
set_option linter.unusedVariables false
set_option linter.unusedSimpArgs false

/-! ### scutagekeep_Within: function 13 -/
def scutagekeep_Within.f (a0 : Int) (a1 : Int) : Option (Int) := if a1 < 1 then (some 0) else (if a1 = 0 then (none) else (if (Int.tmod a0 a1) < 0 then (some (wrap64 ((Int.tmod a0 a1) + a1))) else (some (Int.tmod a0 a1))))
set_option maxHeartbeats 8000000 in
set_option maxRecDepth 100000 in
theorem scutagekeep_Within.calls (a0 : Int) (a1 : Int) (r : Int) (w : World) (h : scutagekeep_Within.f a0 a1 = some r) :
    Calls Try.prog 13 #[.int .i64 a0, .int .i64 a1] w fun e w' => e = .returned (.int .i64 r) ∧ Drawn0 w w' := by
  have H : (if a1 < 1 then (some 0) else (if a1 = 0 then (none) else (if (Int.tmod a0 a1) < 0 then (some (wrap64 ((Int.tmod a0 a1) + a1))) else (some (Int.tmod a0 a1))))) = some r := h
  clear h
  by_cases c3 : a1 < 1
  · rw [if_pos c3] at H
    have c3b0 : decide (a1 < 1) = true := decide_eq_true c3
    clear c3
    obtain rfl := Option.some.inj H
    go_enter Try.func13, Try.ntmps13
    go_wp2
    go_ret
    exact ⟨by first | rfl | (simp; done) | (simp [*]; done), by repeat (first | exact Drawn0.refl _ | apply Drawn0.step)⟩
  · rw [if_neg c3] at H
    have c3b0 : decide (a1 < 1) = false := decide_eq_false c3
    clear c3
    by_cases c4 : a1 = 0
    · rw [if_pos c4] at H
      exact absurd H (by simp)
    · rw [if_neg c4] at H
      have c4b0 : (a1 == 0) = false := beq_eq_false_iff_ne.mpr c4
      have c4b1 : (a1 != 0) = true := bne_iff_ne.mpr c4
      by_cases c5 : (Int.tmod a0 a1) < 0
      · rw [if_pos c5] at H
        have c5b0 : decide ((Int.tmod a0 a1) < 0) = true := decide_eq_true c5
        clear c5
        obtain rfl := Option.some.inj H
        go_enter Try.func13, Try.ntmps13
        go_wp2
        go_ret
        exact ⟨by first | rfl | (simp; done) | (simp [*]; done), by repeat (first | exact Drawn0.refl _ | apply Drawn0.step)⟩
      · rw [if_neg c5] at H
        have c5b0 : decide ((Int.tmod a0 a1) < 0) = false := decide_eq_false c5
        clear c5
        obtain rfl := Option.some.inj H
        go_enter Try.func13, Try.ntmps13
        go_wp2
        go_ret
        exact ⟨by first | rfl | (simp; done) | (simp [*]; done), by repeat (first | exact Drawn0.refl _ | apply Drawn0.step)⟩

/-! ### rate_Money: function 17 -/
def rate_Money.f (a0 : Int) : Option (Bool) := if a0 ≥ (-100000000000) then (some (decide (a0 ≤ 100000000000))) else (some false)
set_option maxHeartbeats 8000000 in
set_option maxRecDepth 100000 in
theorem rate_Money.calls (a0 : Int) (r : Bool) (w : World) (h : rate_Money.f a0 = some r) :
    Calls Try.prog 17 #[.int .i64 a0] w fun e w' => e = .returned (.bool r) ∧ Drawn0 w w' := by
  have H : (if a0 ≥ (-100000000000) then (some (decide (a0 ≤ 100000000000))) else (some false)) = some r := h
  clear h
  by_cases c2 : a0 ≥ (-100000000000)
  · rw [if_pos c2] at H
    have c2b0 : decide ((-100000000000) ≤ a0) = true := decide_eq_true c2
    clear c2
    obtain rfl := Option.some.inj H
    go_enter Try.func17, Try.ntmps17
    go_wp2
    go_ret
    exact ⟨by first | rfl | (simp; done) | (simp [*]; done), by repeat (first | exact Drawn0.refl _ | apply Drawn0.step)⟩
  · rw [if_neg c2] at H
    have c2b0 : decide ((-100000000000) ≤ a0) = false := decide_eq_false c2
    clear c2
    obtain rfl := Option.some.inj H
    go_enter Try.func17, Try.ntmps17
    go_wp2
    go_ret
    exact ⟨by first | rfl | (simp; done) | (simp [*]; done), by repeat (first | exact Drawn0.refl _ | apply Drawn0.step)⟩

/-! ### rate_Sum: function 20 -/
def rate_Sum.l0 : Nat → Int → List Int → Int → Int → Option (Int × Bool)
  | 0, _, _, _, _ => none
  | k + 1, x4, x7, x8, x9 => if x9 < x8 then (if 0 ≤ x9 then (if x9 < (x7.length : Int) then ((rate_Money.f (rd x7 x9)).bind fun t102 => (if t102 = true then (rate_Sum.l0 k (wrap64 (x4 + (rd x7 x9))) x7 x8 (wrap64 (x9 + 1))) else (some (0, false)))) else (none)) else (none)) else ((rate_Money.f x4).bind fun t103 => (if t103 = true then (some (x4, true)) else (some (0, false))))
def rate_Sum.f (k : Nat) (l0 : List Int) : Option (Int × Bool) := rate_Sum.l0 k 0 l0 (l0.length : Int) 0
theorem rate_Sum.mono_l : ∀ k, (∀ y0 y1 y2 y3, LeO (rate_Sum.l0 k y0 y1 y2 y3) (rate_Sum.l0 (k + 1) y0 y1 y2 y3))
  | 0 => fun _ _ _ _ r h => by simp [rate_Sum.l0] at h
  | k + 1 => by
    have ih0 := rate_Sum.mono_l k
    · intro y0 y1 y2 y3
      unfold rate_Sum.l0
      repeat' first
      | (with_reducible exact ih0 _ _ _ _)
      | (with_reducible exact LeO.refl _)
      | (with_reducible exact LeO.none _)
      | (with_reducible refine LeO.ite ?_ ?_)
      | (with_reducible refine LeO.bind ?_ (fun _ => ?_))
      | exact ih0 _ _ _ _
      | exact LeO.none _
      | refine LeO.ite ?_ ?_
      | refine LeO.bind ?_ (fun _ => ?_)
theorem rate_Sum.mono : ∀ a0 k, LeO (rate_Sum.f k a0) (rate_Sum.f (k + 1) a0) := by
  intro a0 k
  have ih0 := rate_Sum.mono_l k
  unfold rate_Sum.f
  repeat' first
      | (with_reducible exact ih0 _ _ _ _)
      | (with_reducible exact LeO.refl _)
      | (with_reducible exact LeO.none _)
      | (with_reducible refine LeO.ite ?_ ?_)
      | (with_reducible refine LeO.bind ?_ (fun _ => ?_))
      | exact ih0 _ _ _ _
      | exact LeO.none _
      | refine LeO.ite ?_ ?_
      | refine LeO.bind ?_ (fun _ => ?_)
set_option maxHeartbeats 8000000 in
set_option maxRecDepth 100000 in
theorem rate_Sum.calls (k : Nat) (A0 : Option Addr) (c0 : Nat) (l0 : List Int) (r1 : Int) (r2 : Bool) (w : World) (hr0 : Kd.C (Kd.int .i64) w A0 l0.length l0) (hc0 : l0.length ≤ c0) (h : rate_Sum.f k l0 = some (r1, r2)) :
    Calls Try.prog 20 #[.slice A0 l0.length c0] w fun e w' => e = .returned (.tuple #[.int .i64 r1, .bool r2]) ∧ Drawn0 w w' := by
  have HR0 := Aside0.mk hr0
  have HC0 := Aside0.mk hc0
  clear hr0 hc0
  have H : (rate_Sum.l0 k 0 l0 (l0.length : Int) 0) = some (r1, r2) := h
  clear h
  have H' := Aside0.mk H
  clear H
  go_enter Try.func20, Try.ntmps20
  go_wp2
  go_loopg [4, 9] k (fun kq v4 v9 w' => ∃ (x4_1 : Int) (x9_1 : Int), v4 = .int .i64 x4_1 ∧ v9 = .int .i64 x9_1 ∧ Aside0 (rate_Sum.l0 kq x4_1 l0 (l0.length : Int) x9_1 = some (r1, r2)) ∧ Aside0 (kq ≤ k) ∧ Drawn0 w w')
  case atStart => exact ⟨(0), (0), (by first | rfl | (simp; done) | (simp [*]; done)), (by first | rfl | (simp; done) | (simp [*]; done)), H', ⟨Nat.le_refl _⟩, by repeat (first | exact Drawn0.refl _ | apply Drawn0.step)⟩
  case round =>
    clear H'
    obtain ⟨x4_1, x9_1, rfl, rfl, HA, HK1, ⟨m1, rfl⟩⟩ := hrel
    cases gk with
    | zero => exact absurd HA.out (by simp [rate_Sum.l0])
    | succ k1 =>
      have H := HA.out
      clear HA
      simp only [rate_Sum.l0] at H
      by_cases c2 : x9_1 < (l0.length : Int)
      · rw [if_pos c2] at H
        have c2b0 : decide (x9_1 < (l0.length : Int)) = true := decide_eq_true c2
        clear c2
        by_cases c3 : 0 ≤ x9_1
        · rw [if_pos c3] at H
          have c3b0 : decide (0 ≤ x9_1) = true := decide_eq_true c3
          clear c3
          by_cases c4 : x9_1 < (l0.length : Int)
          · rw [if_pos c4] at H
            have c4b0 : decide (x9_1 < (l0.length : Int)) = true := decide_eq_true c4
            clear c4
            replace H := Option.bind_eq_some_iff.mp H
            obtain ⟨t102, A50, H⟩ := H
            replace H : (if t102 = true then (rate_Sum.l0 k1 (wrap64 (x4_1 + (rd l0 x9_1))) l0 (l0.length : Int) (wrap64 (x9_1 + 1))) else (some (0, false))) = some (r1, r2) := H
            have A5 := Aside0.mk A50
            clear A50
            by_cases c6 : t102 = true
            · subst c6
              have H1 : (rate_Sum.l0 k1 (wrap64 (x4_1 + (rd l0 x9_1))) l0 (l0.length : Int) (wrap64 (x9_1 + 1))) = some (r1, r2) := by rw [if_pos rfl] at H; exact H
              clear H
              have H := H1
              clear H1
              have H' := Aside0.mk H
              clear H
              have p101 : 0 ≤ (x9_1 : Int) := of_decide_eq_true (by first | (with_reducible assumption) | assumption)
              have q101 : x9_1 < (l0.length : Int) := of_decide_eq_true (by first | (with_reducible assumption) | assumption)
              obtain ⟨ad101, e101, hx101_0⟩ := Kd.at_int HR0.out x9_1 p101 q101
              cases e101
              replace p101 := eq_true p101
              replace q101 := eq_true q101
              go_wp2_with (first | ((with_reducible refine gate_callee (f := 17) rfl ?_); refine goesL_ (some 14) rfl rfl Try.func17 (by kernel_rfl) rfl #[.int .i64 (rd l0 x9_1)] rfl (by (try simp only [List.map_toArray, List.map_cons, List.map_nil]); first | done | rfl | (simp only [List.length_drop, List.length_take]; rfl)) ?_; (with_reducible refine (rate_Money.calls (rd l0 x9_1) true _ A5.out).mono ?_); rintro e w' ⟨rfl, ⟨nd, rfl⟩⟩; refine ⟨_, rfl, ?_⟩))
              go_roundg k1
              case measure => have := HK1.out; omega
              case rel => exact ⟨(wrap64 (x4_1 + (rd l0 x9_1))), (wrap64 (x9_1 + 1)), (by first | rfl | (simp; done) | (simp [*]; done)), (by first | rfl | (simp; done) | (simp [*]; done)), H', ⟨by have := HK1.out; omega⟩, by repeat (first | exact Drawn0.refl _ | apply Drawn0.step)⟩
            · replace c6 := Bool.eq_false_iff.mpr c6
              subst c6
              have H1 : (some (0, false)) = some (r1, r2) := by rw [if_neg (show ¬ (false = true) by decide)] at H; exact H
              clear H
              have H := H1
              clear H1
              simp only [Option.some.injEq, Prod.mk.injEq] at H
              obtain ⟨rfl, rfl⟩ := H
              have p101 : 0 ≤ (x9_1 : Int) := of_decide_eq_true (by first | (with_reducible assumption) | assumption)
              have q101 : x9_1 < (l0.length : Int) := of_decide_eq_true (by first | (with_reducible assumption) | assumption)
              obtain ⟨ad101, e101, hx101_0⟩ := Kd.at_int HR0.out x9_1 p101 q101
              cases e101
              replace p101 := eq_true p101
              replace q101 := eq_true q101
              go_wp2_with (first | ((with_reducible refine gate_callee (f := 17) rfl ?_); refine goesL_ (some 14) rfl rfl Try.func17 (by kernel_rfl) rfl #[.int .i64 (rd l0 x9_1)] rfl (by (try simp only [List.map_toArray, List.map_cons, List.map_nil]); first | done | rfl | (simp only [List.length_drop, List.length_take]; rfl)) ?_; (with_reducible refine (rate_Money.calls (rd l0 x9_1) false _ A5.out).mono ?_); rintro e w' ⟨rfl, ⟨nd, rfl⟩⟩; refine ⟨_, rfl, ?_⟩))
              go_ret2
              exact ⟨by first | rfl | (simp; done) | (simp [*]; done), by repeat (first | exact Drawn0.refl _ | apply Drawn0.step)⟩
          · rw [if_neg c4] at H
            exact absurd H (by simp)
        · rw [if_neg c3] at H
          exact absurd H (by simp)
      · rw [if_neg c2] at H
        have c2b0 : decide (x9_1 < (l0.length : Int)) = false := decide_eq_false c2
        clear c2
        replace H := Option.bind_eq_some_iff.mp H
        obtain ⟨t103, A70, H⟩ := H
        replace H : (if t103 = true then (some (x4_1, true)) else (some (0, false))) = some (r1, r2) := H
        have A7 := Aside0.mk A70
        clear A70
        by_cases c8 : t103 = true
        · subst c8
          have H1 : (some (x4_1, true)) = some (r1, r2) := by rw [if_pos rfl] at H; exact H
          clear H
          have H := H1
          clear H1
          simp only [Option.some.injEq, Prod.mk.injEq] at H
          obtain ⟨rfl, rfl⟩ := H
          go_wp2_with (first | ((with_reducible refine gate_callee (f := 17) rfl ?_); refine goesL_ (some 21) rfl rfl Try.func17 (by kernel_rfl) rfl #[.int .i64 x4_1] rfl (by (try simp only [List.map_toArray, List.map_cons, List.map_nil]); first | done | rfl | (simp only [List.length_drop, List.length_take]; rfl)) ?_; (with_reducible refine (rate_Money.calls x4_1 true _ A7.out).mono ?_); rintro e w' ⟨rfl, ⟨nd, rfl⟩⟩; refine ⟨_, rfl, ?_⟩))
          go_ret2
          exact ⟨by first | rfl | (simp; done) | (simp [*]; done), by repeat (first | exact Drawn0.refl _ | apply Drawn0.step)⟩
        · replace c8 := Bool.eq_false_iff.mpr c8
          subst c8
          have H1 : (some (0, false)) = some (r1, r2) := by rw [if_neg (show ¬ (false = true) by decide)] at H; exact H
          clear H
          have H := H1
          clear H1
          simp only [Option.some.injEq, Prod.mk.injEq] at H
          obtain ⟨rfl, rfl⟩ := H
          go_wp2_with (first | ((with_reducible refine gate_callee (f := 17) rfl ?_); refine goesL_ (some 21) rfl rfl Try.func17 (by kernel_rfl) rfl #[.int .i64 x4_1] rfl (by (try simp only [List.map_toArray, List.map_cons, List.map_nil]); first | done | rfl | (simp only [List.length_drop, List.length_take]; rfl)) ?_; (with_reducible refine (rate_Money.calls x4_1 false _ A7.out).mono ?_); rintro e w' ⟨rfl, ⟨nd, rfl⟩⟩; refine ⟨_, rfl, ?_⟩))
          go_ret2
          exact ⟨by first | rfl | (simp; done) | (simp [*]; done), by repeat (first | exact Drawn0.refl _ | apply Drawn0.step)⟩

/-! ### bridge_Income: function 30 -/
def bridge_Income.f (k : Nat) (a0 : Int) (a1 : Int) (a2 : Int) : Option (Int × Bool) := (rate_Money.f a2).bind fun t104 => (if t104 = true then ((rate_Sum.f k (([a0, a1, wrap64 (-a2)] : List Int))).bind fun bt108 => (some (bt108.1, bt108.2))) else (some (0, false)))
theorem bridge_Income.mono : ∀ a0 a1 a2 k, LeO (bridge_Income.f k a0 a1 a2) (bridge_Income.f (k + 1) a0 a1 a2) := by
  intro a0 a1 a2 k
  unfold bridge_Income.f
  repeat' first
      | (with_reducible exact rate_Sum.mono _ _)
      | (with_reducible exact LeO.refl _)
      | (with_reducible exact LeO.none _)
      | (with_reducible refine LeO.ite ?_ ?_)
      | (with_reducible refine LeO.bind ?_ (fun _ => ?_))
      | exact rate_Sum.mono _ _
      | exact LeO.none _
      | refine LeO.ite ?_ ?_
      | refine LeO.bind ?_ (fun _ => ?_)
set_option maxHeartbeats 8000000 in
set_option maxRecDepth 100000 in
theorem bridge_Income.calls (k : Nat) (a0 : Int) (a1 : Int) (a2 : Int) (r1 : Int) (r2 : Bool) (w : World) (h : bridge_Income.f k a0 a1 a2 = some (r1, r2)) :
    Calls Try.prog 30 #[.int .i64 a0, .int .i64 a1, .int .i64 a2] w fun e w' => e = .returned (.tuple #[.int .i64 r1, .bool r2]) ∧ Below w.heap.size w w' := by
  have HB := Aside0.mk (Below.refl w.heap.size w)
  have H : ((rate_Money.f a2).bind fun t104 => (if t104 = true then ((rate_Sum.f k (([a0, a1, wrap64 (-a2)] : List Int))).bind fun bt108 => (some (bt108.1, bt108.2))) else (some (0, false)))) = some (r1, r2) := h
  clear h
  replace H := Option.bind_eq_some_iff.mp H
  obtain ⟨t104, A40, H⟩ := H
  replace H : (if t104 = true then ((rate_Sum.f k (([a0, a1, wrap64 (-a2)] : List Int))).bind fun bt108 => (some (bt108.1, bt108.2))) else (some (0, false))) = some (r1, r2) := H
  have A4 := Aside0.mk A40
  clear A40
  by_cases c5 : t104 = true
  · subst c5
    have H1 : ((rate_Sum.f k (([a0, a1, wrap64 (-a2)] : List Int))).bind fun bt108 => (some (bt108.1, bt108.2))) = some (r1, r2) := by rw [if_pos rfl] at H; exact H
    clear H
    have H := H1
    clear H1
    obtain ⟨y105, hy105⟩ : ∃ y_ : List Int, y_ = (([a0, a1, wrap64 (-a2)] : List Int)) := ⟨_, rfl⟩
    replace H : ((rate_Sum.f k y105).bind fun bt108 => (some (bt108.1, bt108.2))) = some (r1, r2) := by first | (rw [hy105]; with_reducible exact H) | (have H2_ := (Option.bind_some _ _).symm.trans H; rw [hy105]; with_reducible exact H2_) | (have H2_ := (Option.bind_some _ _).symm.trans H; with_reducible exact H2_) | with_reducible exact H | (rw [hy105]; exact H) | exact H
    have Ny105 := Aside0.mk hy105
    clear hy105
    replace H := Option.bind_eq_some_iff.mp H
    obtain ⟨⟨t108, t109⟩, A60, H⟩ := H
    replace H : (some (t108, t109)) = some (r1, r2) := H
    have A6 := Aside0.mk A60
    clear A60
    simp only [Option.some.injEq, Prod.mk.injEq] at H
    obtain ⟨rfl, rfl⟩ := H
    go_enter Try.func30, Try.ntmps30
    go_wp2_with (first | ((with_reducible refine gate_callee (f := 17) rfl ?_); refine goesL_ (some 9) rfl rfl Try.func17 (by kernel_rfl) rfl #[.int .i64 a2] rfl (by (try simp only [List.map_toArray, List.map_cons, List.map_nil]); first | done | rfl | (simp only [List.length_drop, List.length_take]; rfl)) ?_; (with_reducible refine (rate_Money.calls a2 true _ A4.out).mono ?_); rintro e w' ⟨rfl, ⟨nd, rfl⟩⟩; refine ⟨_, rfl, ?_⟩) | ((with_reducible refine gate_dst (N := 15) rfl ?_); refine Kd.R_lit (Kd.int .i64) _ 3 ?hg (N := 15) ?hd (xs := ([a0, a1, wrap64 (-a2)] : List Int)) (inner := [.int .i64 a0, .int .i64 a1, .int .i64 (wrap64 (-a2))]) (ok := fun _ => True) (okp := fun _ => True) ?hr ?hp (fun _ hk => hk) trivial (Below.refl _ _) (Nat.le_refl _) (by simp) ?_; (case hd => rfl); (case hg => rfl); (case hr => first | (go_simp; done) | (go_simp; rfl)); (case hp => exact (Reps.one (show Kd.M (Kd.int .i64) _ _ _ a0 [.int .i64 a0] from rfl) (Reps.one (show Kd.M (Kd.int .i64) _ _ _ a1 [.int .i64 a1] from rfl) (Reps.one (show Kd.M (Kd.int .i64) _ _ _ (wrap64 (-a2)) [.int .i64 (wrap64 (-a2))] from rfl) (Reps.none _ _))))); intro v106 w7 ho8 hb hg_ hnew_; clear hg_ hnew_; (first | rw [← Ny105.out] at ho8 | (simp only [Int.reduceToNat] at ho8; rw [← Ny105.out] at ho8)); have n0_ := Aside0.mk (Kd.R_lower ho8 (below_size (by repeat (first | (with_reducible first | exact HB.out | apply below_alloc | apply pw_below_drewN | apply below_drew1) | exact HB.out)))); have n1_ := Aside0.mk (below_step (by repeat (first | (with_reducible first | exact HB.out | apply below_alloc | apply pw_below_drewN | apply below_drew1) | exact HB.out)) hb); clear HB; have HO107 := n0_; have HB := n1_; clear n0_ n1_; clear hb ho8; obtain ⟨Ao9, co9, eo9⟩ := Kd.R_slice HO107.out; subst eo9) | ((with_reducible refine gate_callee (f := 20) rfl ?_); refine goesL_ (some 16) rfl rfl Try.func20 (by kernel_rfl) rfl #[.slice Ao9 y105.length co9] rfl (by (try simp only [List.map_toArray, List.map_cons, List.map_nil]); first | done | rfl | (simp only [List.length_drop, List.length_take]; rfl)) ?_; (with_reducible refine (rate_Sum.calls k _ _ y105 t108 t109 _ ?side1 ?side2 A6.out).mono ?_); (case side1 => repeat (first | exact (Kd.R_reads' HO107.out).2.2 | (with_reducible refine Kd.C_alloc ?_ _) | (with_reducible refine Kd.C_drewN ?_ _) | (with_reducible refine Kd.C_drew ?_))); (case side2 => exact (Kd.R_reads' HO107.out).2.1); rintro e w' ⟨rfl, ⟨nd, rfl⟩⟩; refine ⟨_, rfl, ?_⟩))
    go_ret2
    exact ⟨by first | rfl | (simp [errW_none, errW_some] <;> rfl) | (simp [*, errW_none, errW_some] <;> rfl), by repeat (first | (with_reducible first | exact HB.out | apply below_alloc | apply pw_below_drewN | apply below_drew1) | exact HB.out)⟩
  · replace c5 := Bool.eq_false_iff.mpr c5
    subst c5
    have H1 : (some (0, false)) = some (r1, r2) := by rw [if_neg (show ¬ (false = true) by decide)] at H; exact H
    clear H
    have H := H1
    clear H1
    simp only [Option.some.injEq, Prod.mk.injEq] at H
    obtain ⟨rfl, rfl⟩ := H
    go_enter Try.func30, Try.ntmps30
    go_wp2_with (first | ((with_reducible refine gate_callee (f := 17) rfl ?_); refine goesL_ (some 9) rfl rfl Try.func17 (by kernel_rfl) rfl #[.int .i64 a2] rfl (by (try simp only [List.map_toArray, List.map_cons, List.map_nil]); first | done | rfl | (simp only [List.length_drop, List.length_take]; rfl)) ?_; (with_reducible refine (rate_Money.calls a2 false _ A4.out).mono ?_); rintro e w' ⟨rfl, ⟨nd, rfl⟩⟩; refine ⟨_, rfl, ?_⟩))
    go_ret2
    exact ⟨by first | rfl | (simp [errW_none, errW_some] <;> rfl) | (simp [*, errW_none, errW_some] <;> rfl), by repeat (first | (with_reducible first | exact HB.out | apply below_alloc | apply pw_below_drewN | apply below_drew1) | exact HB.out)⟩

/-! ### scutagelaw12_wakes: function 31 -/
def scutagelaw12_wakes.f (k : Nat)  : Option (Bool) := (bridge_Income.f k 10 2 5).bind fun bt110 => (if bt110.2 = true then (some (bt110.1 == 7)) else (some false))
theorem scutagelaw12_wakes.mono : ∀ k, LeO (scutagelaw12_wakes.f k ) (scutagelaw12_wakes.f (k + 1) ) := by
  intro  k
  unfold scutagelaw12_wakes.f
  repeat' first
      | (with_reducible exact bridge_Income.mono _ _ _ _)
      | (with_reducible exact LeO.refl _)
      | (with_reducible exact LeO.none _)
      | (with_reducible refine LeO.ite ?_ ?_)
      | (with_reducible refine LeO.bind ?_ (fun _ => ?_))
      | exact bridge_Income.mono _ _ _ _
      | exact LeO.none _
      | refine LeO.ite ?_ ?_
      | refine LeO.bind ?_ (fun _ => ?_)
set_option maxHeartbeats 8000000 in
set_option maxRecDepth 100000 in
theorem scutagelaw12_wakes.calls (k : Nat)  (r : Bool) (w : World) (h : scutagelaw12_wakes.f k  = some r) :
    Calls Try.prog 31 #[] w fun e w' => e = .returned (.bool r) ∧ Below w.heap.size w w' := by
  have HB := Aside0.mk (Below.refl w.heap.size w)
  have H : ((bridge_Income.f k 10 2 5).bind fun bt110 => (if bt110.2 = true then (some (bt110.1 == 7)) else (some false))) = some r := h
  clear h
  replace H := Option.bind_eq_some_iff.mp H
  obtain ⟨⟨t110, t111⟩, A10, H⟩ := H
  replace H : (if t111 = true then (some (t110 == 7)) else (some false)) = some r := H
  have A1 := Aside0.mk A10
  clear A10
  by_cases c2 : t111 = true
  · subst c2
    have H1 : (some (t110 == 7)) = some r := by rw [if_pos rfl] at H; exact H
    clear H
    have H := H1
    clear H1
    obtain rfl := Option.some.inj H
    go_enter Try.func31, Try.ntmps31
    go_wp2_with (first | ((with_reducible refine gate_callee (f := 30) rfl ?_); refine goesL_ (some 4) rfl rfl Try.func30 (by kernel_rfl) rfl #[.int .i64 10, .int .i64 2, .int .i64 5] rfl (by (try simp only [List.map_toArray, List.map_cons, List.map_nil]); first | done | rfl | (simp only [List.length_drop, List.length_take]; rfl)) ?_; (with_reducible refine (bridge_Income.calls k 10 2 5 t110 true _ A1.out).mono ?_); rintro e w3 ⟨rfl, hb⟩; refine ⟨_, rfl, ?_⟩; have n0_ := Aside0.mk (below_step (by repeat (first | (with_reducible first | exact HB.out | apply below_alloc | apply pw_below_drewN | apply below_drew1) | exact HB.out)) hb); clear HB; have HB := n0_; clear n0_; (try clear hb); (try clear hb2); (try clear hk); (try clear hi)))
    go_ret
    exact ⟨by first | rfl | (simp [errW_none, errW_some] <;> rfl) | (simp [*, errW_none, errW_some] <;> rfl), by repeat (first | (with_reducible first | exact HB.out | apply below_alloc | apply pw_below_drewN | apply below_drew1) | exact HB.out)⟩
  · replace c2 := Bool.eq_false_iff.mpr c2
    subst c2
    have H1 : (some false) = some r := by rw [if_neg (show ¬ (false = true) by decide)] at H; exact H
    clear H
    have H := H1
    clear H1
    obtain rfl := Option.some.inj H
    go_enter Try.func31, Try.ntmps31
    go_wp2_with (first | ((with_reducible refine gate_callee (f := 30) rfl ?_); refine goesL_ (some 4) rfl rfl Try.func30 (by kernel_rfl) rfl #[.int .i64 10, .int .i64 2, .int .i64 5] rfl (by (try simp only [List.map_toArray, List.map_cons, List.map_nil]); first | done | rfl | (simp only [List.length_drop, List.length_take]; rfl)) ?_; (with_reducible refine (bridge_Income.calls k 10 2 5 t110 false _ A1.out).mono ?_); rintro e w4 ⟨rfl, hb⟩; refine ⟨_, rfl, ?_⟩; have n0_ := Aside0.mk (below_step (by repeat (first | (with_reducible first | exact HB.out | apply below_alloc | apply pw_below_drewN | apply below_drew1) | exact HB.out)) hb); clear HB; have HB := n0_; clear n0_; (try clear hb); (try clear hb2); (try clear hk); (try clear hi)))
    go_ret
    exact ⟨by first | rfl | (simp [errW_none, errW_some] <;> rfl) | (simp [*, errW_none, errW_some] <;> rfl), by repeat (first | (with_reducible first | exact HB.out | apply below_alloc | apply pw_below_drewN | apply below_drew1) | exact HB.out)⟩

/-! ### bridge_Lines: function 32 -/
def bridge_Lines.f (k : Nat) (a0 : Int) (a1 : Int) (a2 : Int) : Option ((List (S41))) := (bridge_Income.f k a0 a1 a2).bind fun bt112 => (if bt112.2 = true then (some (([(⟨1, a0⟩ : S41), (⟨2, a1⟩ : S41), (⟨3, wrap64 (-a2)⟩ : S41), (⟨4, bt112.1⟩ : S41)] : List (S41)))) else (some ([] : List (S41))))
theorem bridge_Lines.mono : ∀ a0 a1 a2 k, LeO (bridge_Lines.f k a0 a1 a2) (bridge_Lines.f (k + 1) a0 a1 a2) := by
  intro a0 a1 a2 k
  unfold bridge_Lines.f
  repeat' first
      | (with_reducible exact bridge_Income.mono _ _ _ _)
      | (with_reducible exact LeO.refl _)
      | (with_reducible exact LeO.none _)
      | (with_reducible refine LeO.ite ?_ ?_)
      | (with_reducible refine LeO.bind ?_ (fun _ => ?_))
      | exact bridge_Income.mono _ _ _ _
      | exact LeO.none _
      | refine LeO.ite ?_ ?_
      | refine LeO.bind ?_ (fun _ => ?_)
set_option maxHeartbeats 8000000 in
set_option maxRecDepth 100000 in
theorem bridge_Lines.calls (k : Nat) (a0 : Int) (a1 : Int) (a2 : Int) (r : List (S41)) (w : World) (h : bridge_Lines.f k a0 a1 a2 = some r) :
    Calls Try.prog 32 #[.int .i64 a0, .int .i64 a1, .int .i64 a2] w fun e w' => ∃ v0_ : Value, e = .returned (v0_) ∧ Kd.R k41 41 w' w.heap.size (fun _ => True) v0_ r ∧ Below w.heap.size w w' := by
  have hu41 := Try.underlying41
  have HB := Aside0.mk (Below.refl w.heap.size w)
  have H : ((bridge_Income.f k a0 a1 a2).bind fun bt112 => (if bt112.2 = true then (some (([(⟨1, a0⟩ : S41), (⟨2, a1⟩ : S41), (⟨3, wrap64 (-a2)⟩ : S41), (⟨4, bt112.1⟩ : S41)] : List (S41)))) else (some ([] : List (S41))))) = some r := h
  clear h
  replace H := Option.bind_eq_some_iff.mp H
  obtain ⟨⟨t112, t113⟩, A40, H⟩ := H
  replace H : (if t113 = true then (some (([(⟨1, a0⟩ : S41), (⟨2, a1⟩ : S41), (⟨3, wrap64 (-a2)⟩ : S41), (⟨4, t112⟩ : S41)] : List (S41)))) else (some ([] : List (S41)))) = some r := H
  have A4 := Aside0.mk A40
  clear A40
  by_cases c5 : t113 = true
  · subst c5
    have H1 : (some (([(⟨1, a0⟩ : S41), (⟨2, a1⟩ : S41), (⟨3, wrap64 (-a2)⟩ : S41), (⟨4, t112⟩ : S41)] : List (S41)))) = some r := by rw [if_pos rfl] at H; exact H
    clear H
    have H := H1
    clear H1
    obtain ⟨y114, hy114⟩ : ∃ y_ : List (S41), y_ = (([(⟨1, a0⟩ : S41), (⟨2, a1⟩ : S41), (⟨3, wrap64 (-a2)⟩ : S41), (⟨4, t112⟩ : S41)] : List (S41))) := ⟨_, rfl⟩
    replace H : (some y114) = some r := by first | (rw [hy114]; with_reducible exact H) | (have H2_ := (Option.bind_some _ _).symm.trans H; rw [hy114]; with_reducible exact H2_) | (have H2_ := (Option.bind_some _ _).symm.trans H; with_reducible exact H2_) | with_reducible exact H | (rw [hy114]; exact H) | exact H
    have Ny114 := Aside0.mk hy114
    clear hy114
    obtain rfl := Option.some.inj H
    go_enter Try.func32, Try.ntmps32
    go_wp2_with (first | ((with_reducible refine gate_callee (f := 30) rfl ?_); refine goesL_ (some 13) rfl rfl Try.func30 (by kernel_rfl) rfl #[.int .i64 a0, .int .i64 a1, .int .i64 a2] rfl (by (try simp only [List.map_toArray, List.map_cons, List.map_nil]); first | done | rfl | (simp only [List.length_drop, List.length_take]; rfl)) ?_; (with_reducible refine (bridge_Income.calls k a0 a1 a2 t112 true _ A4.out).mono ?_); rintro e w6 ⟨rfl, hb⟩; refine ⟨_, rfl, ?_⟩; have n0_ := Aside0.mk (below_step (by repeat (first | (with_reducible first | exact HB.out | apply below_alloc | apply pw_below_drewN | apply below_drew1) | exact HB.out)) hb); clear HB; have HB := n0_; clear n0_; (try clear hb); (try clear hb2); (try clear hk); (try clear hi)) | ((with_reducible refine gate_dst (N := 27) rfl ?_); refine Kd.R_lit k41 _ 41 ?hg (N := 27) ?hd (xs := ([(⟨1, a0⟩ : S41), (⟨2, a1⟩ : S41), (⟨3, wrap64 (-a2)⟩ : S41), (⟨4, t112⟩ : S41)] : List (S41))) (inner := [.int .i64 1, .int .i64 a0, .int .i64 2, .int .i64 a1, .int .i64 3, .int .i64 (wrap64 (-a2)), .int .i64 4, .int .i64 t112]) (ok := fun _ => True) (okp := fun _ => True) ?hr ?hp (fun _ hk => hk) trivial (Below.refl _ _) (Nat.le_refl _) (by simp) ?_; (case hd => rfl); (case hg => rfl); (case hr => first | (go_simp; done) | (go_simp; rfl)); (case hp => exact (Reps.c2 (show Kd.M k41 _ _ _ (⟨1, a0⟩ : S41) [.int .i64 1, .int .i64 a0] from (k41_mkM _ _ _ (⟨1, a0⟩ : S41) )) (Reps.c2 (show Kd.M k41 _ _ _ (⟨2, a1⟩ : S41) [.int .i64 2, .int .i64 a1] from (k41_mkM _ _ _ (⟨2, a1⟩ : S41) )) (Reps.c2 (show Kd.M k41 _ _ _ (⟨3, wrap64 (-a2)⟩ : S41) [.int .i64 3, .int .i64 (wrap64 (-a2))] from (k41_mkM _ _ _ (⟨3, wrap64 (-a2)⟩ : S41) )) (Reps.c2 (show Kd.M k41 _ _ _ (⟨4, t112⟩ : S41) [.int .i64 4, .int .i64 t112] from (k41_mkM _ _ _ (⟨4, t112⟩ : S41) )) (Reps.none _ _)))))); intro v115 w7 ho8 hb hg_ hnew_; clear hg_ hnew_; (first | rw [← Ny114.out] at ho8 | (simp only [Int.reduceToNat] at ho8; rw [← Ny114.out] at ho8)); have n0_ := Aside0.mk (Kd.R_lower ho8 (below_size (by repeat (first | (with_reducible first | exact HB.out | apply below_alloc | apply pw_below_drewN | apply below_drew1) | exact HB.out)))); have n1_ := Aside0.mk (below_step (by repeat (first | (with_reducible first | exact HB.out | apply below_alloc | apply pw_below_drewN | apply below_drew1) | exact HB.out)) hb); clear HB; have HO116 := n0_; have HB := n1_; clear n0_ n1_; clear hb ho8))
    go_ret
    exact ⟨_, by first | rfl | (simp [errW_none, errW_some] <;> rfl) | (simp [*, errW_none, errW_some] <;> rfl), by (with_reducible repeat (first | apply Kd.R_alloc | apply Kd.R_drewN | apply Kd.R_drew)); exact HO116.out, by repeat (first | (with_reducible first | exact HB.out | apply below_alloc | apply pw_below_drewN | apply below_drew1) | exact HB.out)⟩
  · replace c5 := Bool.eq_false_iff.mpr c5
    subst c5
    have H1 : (some ([] : List (S41))) = some r := by rw [if_neg (show ¬ (false = true) by decide)] at H; exact H
    clear H
    have H := H1
    clear H1
    obtain rfl := Option.some.inj H
    go_enter Try.func32, Try.ntmps32
    go_wp2_with (first | ((with_reducible refine gate_callee (f := 30) rfl ?_); refine goesL_ (some 13) rfl rfl Try.func30 (by kernel_rfl) rfl #[.int .i64 a0, .int .i64 a1, .int .i64 a2] rfl (by (try simp only [List.map_toArray, List.map_cons, List.map_nil]); first | done | rfl | (simp only [List.length_drop, List.length_take]; rfl)) ?_; (with_reducible refine (bridge_Income.calls k a0 a1 a2 t112 false _ A4.out).mono ?_); rintro e w9 ⟨rfl, hb⟩; refine ⟨_, rfl, ?_⟩; have n0_ := Aside0.mk (below_step (by repeat (first | (with_reducible first | exact HB.out | apply below_alloc | apply pw_below_drewN | apply below_drew1) | exact HB.out)) hb); clear HB; have HB := n0_; clear n0_; (try clear hb); (try clear hb2); (try clear hk); (try clear hi)))
    go_ret
    exact ⟨_, by first | rfl | (simp [errW_none, errW_some] <;> rfl) | (simp [*, errW_none, errW_some] <;> rfl), by first | exact Kd.R_nil _ _ _ _ _ | exact Kd.N_nil _ _ _ _ _ | exact Kd.V_nil _ _ _ _ _ | exact Kd.Q_nil _ _ _ _ _ | exact Kd.S_nil _ _ _ _ _, by repeat (first | (with_reducible first | exact HB.out | apply below_alloc | apply pw_below_drewN | apply below_drew1) | exact HB.out)⟩

/-! ### scutagelaw12_BridgeSums: function 11 -/
def scutagelaw12_BridgeSums.j0 : Nat → Int → Int → Int → Int → List (S41) → Bool → Option (Bool)
  | 0, _, _, _, _, _, _ => none
  | k + 1, x0, x1, x2, x3, x9, x56 => if x56 = true then (some false) else ((bridge_Income.f k x0 x1 x2).bind fun bt128 => ((bridge_Income.f k x0 (wrap64 (x1 + x3)) x2).bind fun bt130 => ((bridge_Income.f k x0 x1 (wrap64 (x2 + x3))).bind fun bt132 => ((bridge_Income.f k (wrap64 (-x0)) (wrap64 (-x1)) (wrap64 (-x2))).bind fun bt134 => (if 3 < (x9.length : Int) then (if bt128.1 = ((rd_T41 x9 3).f1) then (if bt130.1 = (wrap64 (bt128.1 + x3)) then (if bt132.1 = (wrap64 (bt128.1 - x3)) then (if bt134.1 = (wrap64 (-bt128.1)) then ((scutagelaw12_wakes.f k).bind fun t137 => (some t137)) else (some false)) else (some false)) else (some false)) else (some false)) else (none))))))
def scutagelaw12_BridgeSums.f (k : Nat) (a0 : Int) (a1 : Int) (a2 : Int) (a3 : Int) : Option (Bool) := (scutagekeep_Within.f a0 200001).bind fun t117 => ((scutagekeep_Within.f a1 200001).bind fun t118 => ((scutagekeep_Within.f a2 200001).bind fun t119 => ((scutagekeep_Within.f a3 1000).bind fun t120 => ((bridge_Lines.f k (wrap64 (t117 - 100000)) (wrap64 (t118 - 100000)) (wrap64 (t119 - 100000))).bind fun t121 => (if (t121.length : Int) = 4 then (if 0 < (t121.length : Int) then (if 1 < (t121.length : Int) then (if 2 < (t121.length : Int) then (if 3 < (t121.length : Int) then (scutagelaw12_BridgeSums.j0 k (wrap64 (t117 - 100000)) (wrap64 (t118 - 100000)) (wrap64 (t119 - 100000)) t120 t121 ((wrap64 ((wrap64 (((rd_T41 t121 0).f1) + ((rd_T41 t121 1).f1))) + ((rd_T41 t121 2).f1))) != ((rd_T41 t121 3).f1))) else (none)) else (none)) else (none)) else (none)) else (scutagelaw12_BridgeSums.j0 k (wrap64 (t117 - 100000)) (wrap64 (t118 - 100000)) (wrap64 (t119 - 100000)) t120 t121 true))))))
theorem scutagelaw12_BridgeSums.mono_l : ∀ k, (∀ y0 y1 y2 y3 y4 y5, LeO (scutagelaw12_BridgeSums.j0 k y0 y1 y2 y3 y4 y5) (scutagelaw12_BridgeSums.j0 (k + 1) y0 y1 y2 y3 y4 y5))
  | 0 => fun _ _ _ _ _ _ r h => by simp [scutagelaw12_BridgeSums.j0] at h
  | k + 1 => by
    have ih0 := scutagelaw12_BridgeSums.mono_l k
    · intro y0 y1 y2 y3 y4 y5
      unfold scutagelaw12_BridgeSums.j0
      repeat' first
      | (with_reducible exact ih0 _ _ _ _ _ _)
      | (with_reducible exact bridge_Income.mono _ _ _ _)
      | (with_reducible exact bridge_Lines.mono _ _ _ _)
      | (with_reducible exact scutagelaw12_wakes.mono _)
      | (with_reducible exact LeO.refl _)
      | (with_reducible exact LeO.none _)
      | (with_reducible refine LeO.ite ?_ ?_)
      | (with_reducible refine LeO.bind ?_ (fun _ => ?_))
      | exact ih0 _ _ _ _ _ _
      | exact bridge_Income.mono _ _ _ _
      | exact bridge_Lines.mono _ _ _ _
      | exact scutagelaw12_wakes.mono _
      | exact LeO.none _
      | refine LeO.ite ?_ ?_
      | refine LeO.bind ?_ (fun _ => ?_)
theorem scutagelaw12_BridgeSums.mono : ∀ a0 a1 a2 a3 k, LeO (scutagelaw12_BridgeSums.f k a0 a1 a2 a3) (scutagelaw12_BridgeSums.f (k + 1) a0 a1 a2 a3) := by
  intro a0 a1 a2 a3 k
  have ih0 := scutagelaw12_BridgeSums.mono_l k
  unfold scutagelaw12_BridgeSums.f
  repeat' first
      | (with_reducible exact ih0 _ _ _ _ _ _)
      | (with_reducible exact bridge_Income.mono _ _ _ _)
      | (with_reducible exact bridge_Lines.mono _ _ _ _)
      | (with_reducible exact scutagelaw12_wakes.mono _)
      | (with_reducible exact LeO.refl _)
      | (with_reducible exact LeO.none _)
      | (with_reducible refine LeO.ite ?_ ?_)
      | (with_reducible refine LeO.bind ?_ (fun _ => ?_))
      | exact ih0 _ _ _ _ _ _
      | exact bridge_Income.mono _ _ _ _
      | exact bridge_Lines.mono _ _ _ _
      | exact scutagelaw12_wakes.mono _
      | exact LeO.none _
      | refine LeO.ite ?_ ?_
      | refine LeO.bind ?_ (fun _ => ?_)
set_option maxHeartbeats 8000000 in
set_option maxRecDepth 100000 in
theorem scutagelaw12_BridgeSums.calls (k : Nat) (a0 : Int) (a1 : Int) (a2 : Int) (a3 : Int) (r : Bool) (w : World) (h : scutagelaw12_BridgeSums.f k a0 a1 a2 a3 = some r) :
    Calls Try.prog 11 #[.int .i64 a0, .int .i64 a1, .int .i64 a2, .int .i64 a3] w fun e w' => e = .returned (.bool r) ∧ Below w.heap.size w w' := by
  have HB := Aside0.mk (Below.refl w.heap.size w)
  have H : ((scutagekeep_Within.f a0 200001).bind fun t117 => ((scutagekeep_Within.f a1 200001).bind fun t118 => ((scutagekeep_Within.f a2 200001).bind fun t119 => ((scutagekeep_Within.f a3 1000).bind fun t120 => ((bridge_Lines.f k (wrap64 (t117 - 100000)) (wrap64 (t118 - 100000)) (wrap64 (t119 - 100000))).bind fun t121 => (if (t121.length : Int) = 4 then (if 0 < (t121.length : Int) then (if 1 < (t121.length : Int) then (if 2 < (t121.length : Int) then (if 3 < (t121.length : Int) then (scutagelaw12_BridgeSums.j0 k (wrap64 (t117 - 100000)) (wrap64 (t118 - 100000)) (wrap64 (t119 - 100000)) t120 t121 ((wrap64 ((wrap64 (((rd_T41 t121 0).f1) + ((rd_T41 t121 1).f1))) + ((rd_T41 t121 2).f1))) != ((rd_T41 t121 3).f1))) else (none)) else (none)) else (none)) else (none)) else (scutagelaw12_BridgeSums.j0 k (wrap64 (t117 - 100000)) (wrap64 (t118 - 100000)) (wrap64 (t119 - 100000)) t120 t121 true))))))) = some r := h
  clear h
  replace H := Option.bind_eq_some_iff.mp H
  obtain ⟨t117, A50, H⟩ := H
  replace H : ((scutagekeep_Within.f a1 200001).bind fun t118 => ((scutagekeep_Within.f a2 200001).bind fun t119 => ((scutagekeep_Within.f a3 1000).bind fun t120 => ((bridge_Lines.f k (wrap64 (t117 - 100000)) (wrap64 (t118 - 100000)) (wrap64 (t119 - 100000))).bind fun t121 => (if (t121.length : Int) = 4 then (if 0 < (t121.length : Int) then (if 1 < (t121.length : Int) then (if 2 < (t121.length : Int) then (if 3 < (t121.length : Int) then (scutagelaw12_BridgeSums.j0 k (wrap64 (t117 - 100000)) (wrap64 (t118 - 100000)) (wrap64 (t119 - 100000)) t120 t121 ((wrap64 ((wrap64 (((rd_T41 t121 0).f1) + ((rd_T41 t121 1).f1))) + ((rd_T41 t121 2).f1))) != ((rd_T41 t121 3).f1))) else (none)) else (none)) else (none)) else (none)) else (scutagelaw12_BridgeSums.j0 k (wrap64 (t117 - 100000)) (wrap64 (t118 - 100000)) (wrap64 (t119 - 100000)) t120 t121 true)))))) = some r := H
  have A5 := Aside0.mk A50
  clear A50
  replace H := Option.bind_eq_some_iff.mp H
  obtain ⟨t118, A60, H⟩ := H
  replace H : ((scutagekeep_Within.f a2 200001).bind fun t119 => ((scutagekeep_Within.f a3 1000).bind fun t120 => ((bridge_Lines.f k (wrap64 (t117 - 100000)) (wrap64 (t118 - 100000)) (wrap64 (t119 - 100000))).bind fun t121 => (if (t121.length : Int) = 4 then (if 0 < (t121.length : Int) then (if 1 < (t121.length : Int) then (if 2 < (t121.length : Int) then (if 3 < (t121.length : Int) then (scutagelaw12_BridgeSums.j0 k (wrap64 (t117 - 100000)) (wrap64 (t118 - 100000)) (wrap64 (t119 - 100000)) t120 t121 ((wrap64 ((wrap64 (((rd_T41 t121 0).f1) + ((rd_T41 t121 1).f1))) + ((rd_T41 t121 2).f1))) != ((rd_T41 t121 3).f1))) else (none)) else (none)) else (none)) else (none)) else (scutagelaw12_BridgeSums.j0 k (wrap64 (t117 - 100000)) (wrap64 (t118 - 100000)) (wrap64 (t119 - 100000)) t120 t121 true))))) = some r := H
  have A6 := Aside0.mk A60
  clear A60
  replace H := Option.bind_eq_some_iff.mp H
  obtain ⟨t119, A70, H⟩ := H
  replace H : ((scutagekeep_Within.f a3 1000).bind fun t120 => ((bridge_Lines.f k (wrap64 (t117 - 100000)) (wrap64 (t118 - 100000)) (wrap64 (t119 - 100000))).bind fun t121 => (if (t121.length : Int) = 4 then (if 0 < (t121.length : Int) then (if 1 < (t121.length : Int) then (if 2 < (t121.length : Int) then (if 3 < (t121.length : Int) then (scutagelaw12_BridgeSums.j0 k (wrap64 (t117 - 100000)) (wrap64 (t118 - 100000)) (wrap64 (t119 - 100000)) t120 t121 ((wrap64 ((wrap64 (((rd_T41 t121 0).f1) + ((rd_T41 t121 1).f1))) + ((rd_T41 t121 2).f1))) != ((rd_T41 t121 3).f1))) else (none)) else (none)) else (none)) else (none)) else (scutagelaw12_BridgeSums.j0 k (wrap64 (t117 - 100000)) (wrap64 (t118 - 100000)) (wrap64 (t119 - 100000)) t120 t121 true)))) = some r := H
  have A7 := Aside0.mk A70
  clear A70
  replace H := Option.bind_eq_some_iff.mp H
  obtain ⟨t120, A80, H⟩ := H
  replace H : ((bridge_Lines.f k (wrap64 (t117 - 100000)) (wrap64 (t118 - 100000)) (wrap64 (t119 - 100000))).bind fun t121 => (if (t121.length : Int) = 4 then (if 0 < (t121.length : Int) then (if 1 < (t121.length : Int) then (if 2 < (t121.length : Int) then (if 3 < (t121.length : Int) then (scutagelaw12_BridgeSums.j0 k (wrap64 (t117 - 100000)) (wrap64 (t118 - 100000)) (wrap64 (t119 - 100000)) t120 t121 ((wrap64 ((wrap64 (((rd_T41 t121 0).f1) + ((rd_T41 t121 1).f1))) + ((rd_T41 t121 2).f1))) != ((rd_T41 t121 3).f1))) else (none)) else (none)) else (none)) else (none)) else (scutagelaw12_BridgeSums.j0 k (wrap64 (t117 - 100000)) (wrap64 (t118 - 100000)) (wrap64 (t119 - 100000)) t120 t121 true))) = some r := H
  have A8 := Aside0.mk A80
  clear A80
  replace H := Option.bind_eq_some_iff.mp H
  obtain ⟨t121, A90, H⟩ := H
  replace H : (if (t121.length : Int) = 4 then (if 0 < (t121.length : Int) then (if 1 < (t121.length : Int) then (if 2 < (t121.length : Int) then (if 3 < (t121.length : Int) then (scutagelaw12_BridgeSums.j0 k (wrap64 (t117 - 100000)) (wrap64 (t118 - 100000)) (wrap64 (t119 - 100000)) t120 t121 ((wrap64 ((wrap64 (((rd_T41 t121 0).f1) + ((rd_T41 t121 1).f1))) + ((rd_T41 t121 2).f1))) != ((rd_T41 t121 3).f1))) else (none)) else (none)) else (none)) else (none)) else (scutagelaw12_BridgeSums.j0 k (wrap64 (t117 - 100000)) (wrap64 (t118 - 100000)) (wrap64 (t119 - 100000)) t120 t121 true)) = some r := H
  have A9 := Aside0.mk A90
  clear A90
  have HC10 := Aside0.mk H
  clear H
  go_enter Try.func11, Try.ntmps11
  go_upto_region 3 with (first | (go_at_call 13; (with_reducible refine (scutagekeep_Within.calls a0 200001 t117 _ A5.out).mono ?_); rintro e w' ⟨rfl, ⟨nd, rfl⟩⟩; (try first | exact ⟨rfl, _, World.drewN_drewN _ _ _⟩ | exact ⟨rfl, _, Eq.trans (World.drewN_drewN _ _ _) (congrArg (World.drewN _) (Nat.add_assoc _ _ _))⟩)) | (go_at_call 13; (with_reducible refine (scutagekeep_Within.calls a1 200001 t118 _ A6.out).mono ?_); rintro e w' ⟨rfl, ⟨nd, rfl⟩⟩; (try first | exact ⟨rfl, _, World.drewN_drewN _ _ _⟩ | exact ⟨rfl, _, Eq.trans (World.drewN_drewN _ _ _) (congrArg (World.drewN _) (Nat.add_assoc _ _ _))⟩)) | (go_at_call 13; (with_reducible refine (scutagekeep_Within.calls a2 200001 t119 _ A7.out).mono ?_); rintro e w' ⟨rfl, ⟨nd, rfl⟩⟩; (try first | exact ⟨rfl, _, World.drewN_drewN _ _ _⟩ | exact ⟨rfl, _, Eq.trans (World.drewN_drewN _ _ _) (congrArg (World.drewN _) (Nat.add_assoc _ _ _))⟩)) | (go_at_call 13; (with_reducible refine (scutagekeep_Within.calls a3 1000 t120 _ A8.out).mono ?_); rintro e w' ⟨rfl, ⟨nd, rfl⟩⟩; (try first | exact ⟨rfl, _, World.drewN_drewN _ _ _⟩ | exact ⟨rfl, _, Eq.trans (World.drewN_drewN _ _ _) (congrArg (World.drewN _) (Nat.add_assoc _ _ _))⟩)) | (go_at_call 32; (with_reducible refine (bridge_Lines.calls k (wrap64 (t117 - 100000)) (wrap64 (t118 - 100000)) (wrap64 (t119 - 100000)) t121 _ A9.out).mono ?_); rintro e w11 ⟨v122, rfl, ho0, hb⟩; have n0_ := Aside0.mk (Kd.R_lower ho0 (below_size (by repeat (first | (with_reducible first | exact HB.out | apply below_alloc | apply pw_below_drewN | apply below_drew1) | exact HB.out)))); have n1_ := Aside0.mk (below_step (by repeat (first | (with_reducible first | exact HB.out | apply below_alloc | apply pw_below_drewN | apply below_drew1) | exact HB.out)) hb); clear HB; have HO123 := n0_; have HB := n1_; clear n0_ n1_; (try clear hb); (try clear hb2); (try clear hk); (try clear hi); (try clear ho0)))
  repeat (go_quiet (first | (go_at_call 13; (with_reducible refine (scutagekeep_Within.calls a0 200001 t117 _ A5.out).mono ?_); rintro e w' ⟨rfl, ⟨nd, rfl⟩⟩; (try first | exact ⟨rfl, _, World.drewN_drewN _ _ _⟩ | exact ⟨rfl, _, Eq.trans (World.drewN_drewN _ _ _) (congrArg (World.drewN _) (Nat.add_assoc _ _ _))⟩)) | (go_at_call 13; (with_reducible refine (scutagekeep_Within.calls a1 200001 t118 _ A6.out).mono ?_); rintro e w' ⟨rfl, ⟨nd, rfl⟩⟩; (try first | exact ⟨rfl, _, World.drewN_drewN _ _ _⟩ | exact ⟨rfl, _, Eq.trans (World.drewN_drewN _ _ _) (congrArg (World.drewN _) (Nat.add_assoc _ _ _))⟩)) | (go_at_call 13; (with_reducible refine (scutagekeep_Within.calls a2 200001 t119 _ A7.out).mono ?_); rintro e w' ⟨rfl, ⟨nd, rfl⟩⟩; (try first | exact ⟨rfl, _, World.drewN_drewN _ _ _⟩ | exact ⟨rfl, _, Eq.trans (World.drewN_drewN _ _ _) (congrArg (World.drewN _) (Nat.add_assoc _ _ _))⟩)) | (go_at_call 13; (with_reducible refine (scutagekeep_Within.calls a3 1000 t120 _ A8.out).mono ?_); rintro e w' ⟨rfl, ⟨nd, rfl⟩⟩; (try first | exact ⟨rfl, _, World.drewN_drewN _ _ _⟩ | exact ⟨rfl, _, Eq.trans (World.drewN_drewN _ _ _) (congrArg (World.drewN _) (Nat.add_assoc _ _ _))⟩)) | (go_at_call 32; (with_reducible refine (bridge_Lines.calls k (wrap64 (t117 - 100000)) (wrap64 (t118 - 100000)) (wrap64 (t119 - 100000)) t121 _ A9.out).mono ?_); rintro e w11 ⟨v122, rfl, ho0, hb⟩; have n0_ := Aside0.mk (Kd.R_lower ho0 (below_size (by repeat (first | (with_reducible first | exact HB.out | apply below_alloc | apply pw_below_drewN | apply below_drew1) | exact HB.out)))); have n1_ := Aside0.mk (below_step (by repeat (first | (with_reducible first | exact HB.out | apply below_alloc | apply pw_below_drewN | apply below_drew1) | exact HB.out)) hb); clear HB; have HO123 := n0_; have HB := n1_; clear n0_ n1_; (try clear hb); (try clear hb2); (try clear hk); (try clear hi); (try clear ho0))); go_upto_region 3 with (first | (go_at_call 13; (with_reducible refine (scutagekeep_Within.calls a0 200001 t117 _ A5.out).mono ?_); rintro e w' ⟨rfl, ⟨nd, rfl⟩⟩; (try first | exact ⟨rfl, _, World.drewN_drewN _ _ _⟩ | exact ⟨rfl, _, Eq.trans (World.drewN_drewN _ _ _) (congrArg (World.drewN _) (Nat.add_assoc _ _ _))⟩)) | (go_at_call 13; (with_reducible refine (scutagekeep_Within.calls a1 200001 t118 _ A6.out).mono ?_); rintro e w' ⟨rfl, ⟨nd, rfl⟩⟩; (try first | exact ⟨rfl, _, World.drewN_drewN _ _ _⟩ | exact ⟨rfl, _, Eq.trans (World.drewN_drewN _ _ _) (congrArg (World.drewN _) (Nat.add_assoc _ _ _))⟩)) | (go_at_call 13; (with_reducible refine (scutagekeep_Within.calls a2 200001 t119 _ A7.out).mono ?_); rintro e w' ⟨rfl, ⟨nd, rfl⟩⟩; (try first | exact ⟨rfl, _, World.drewN_drewN _ _ _⟩ | exact ⟨rfl, _, Eq.trans (World.drewN_drewN _ _ _) (congrArg (World.drewN _) (Nat.add_assoc _ _ _))⟩)) | (go_at_call 13; (with_reducible refine (scutagekeep_Within.calls a3 1000 t120 _ A8.out).mono ?_); rintro e w' ⟨rfl, ⟨nd, rfl⟩⟩; (try first | exact ⟨rfl, _, World.drewN_drewN _ _ _⟩ | exact ⟨rfl, _, Eq.trans (World.drewN_drewN _ _ _) (congrArg (World.drewN _) (Nat.add_assoc _ _ _))⟩)) | (go_at_call 32; (with_reducible refine (bridge_Lines.calls k (wrap64 (t117 - 100000)) (wrap64 (t118 - 100000)) (wrap64 (t119 - 100000)) t121 _ A9.out).mono ?_); rintro e w11 ⟨v122, rfl, ho0, hb⟩; have n0_ := Aside0.mk (Kd.R_lower ho0 (below_size (by repeat (first | (with_reducible first | exact HB.out | apply below_alloc | apply pw_below_drewN | apply below_drew1) | exact HB.out)))); have n1_ := Aside0.mk (below_step (by repeat (first | (with_reducible first | exact HB.out | apply below_alloc | apply pw_below_drewN | apply below_drew1) | exact HB.out)) hb); clear HB; have HO123 := n0_; have HB := n1_; clear n0_ n1_; (try clear hb); (try clear hb2); (try clear hk); (try clear hi); (try clear ho0))))
  (try simp only [Act.put, List.setIfInBounds_toArray, List.set_cons_zero, List.set_cons_succ])
  go_cut [56] (fun v56 wc => ∃ (kq : Nat) (x56_9 : Bool), v56 = .bool x56_9 ∧ Aside0 (scutagelaw12_BridgeSums.j0 kq (wrap64 (t117 - 100000)) (wrap64 (t118 - 100000)) (wrap64 (t119 - 100000)) t120 t121 x56_9 = some r) ∧ Aside0 (kq ≤ k) ∧ Aside0 (Kd.R k41 41 wc w.heap.size (fun _ => True) v122 t121) ∧ Aside0 (Below w.heap.size w wc))
  case first =>
    have H := HC10.out
    clear HC10
    by_cases c12 : (t121.length : Int) = 4
    · rw [if_pos c12] at H
      have c12b0 : ((t121.length : Int) == 4) = true := beq_iff_eq.mpr c12
      have c12b1 : ((t121.length : Int) != 4) = false := bne_eq_false_iff_eq.mpr c12
      clear c12
      (first | rw [c12b0] | (simp only [i64_w, i32_w]; rw [c12b0]) | skip)
      by_cases c13 : 0 < (t121.length : Int)
      · rw [if_pos c13] at H
        have c13b0 : decide (0 < (t121.length : Int)) = true := decide_eq_true c13
        have c13b1 : decide (0 < t121.length) = true := decide_eq_true (by omega)
        clear c13
        by_cases c14 : 1 < (t121.length : Int)
        · rw [if_pos c14] at H
          have c14b0 : decide (1 < (t121.length : Int)) = true := decide_eq_true c14
          have c14b1 : decide (1 < t121.length) = true := decide_eq_true (by omega)
          clear c14
          by_cases c15 : 2 < (t121.length : Int)
          · rw [if_pos c15] at H
            have c15b0 : decide (2 < (t121.length : Int)) = true := decide_eq_true c15
            have c15b1 : decide (2 < t121.length) = true := decide_eq_true (by omega)
            clear c15
            by_cases c16 : 3 < (t121.length : Int)
            · rw [if_pos c16] at H
              have c16b0 : decide (3 < (t121.length : Int)) = true := decide_eq_true c16
              have c16b1 : decide (3 < t121.length) = true := decide_eq_true (by omega)
              clear c16
              have H' := Aside0.mk H
              clear H
              obtain ⟨Ao17, co17, eo17⟩ := Kd.R_slice HO123.out
              subst eo17
              have p124 : 0 ≤ (0 : Int) := (by omega)
              have q124 : 0 < (t121.length : Int) := of_decide_eq_true (by first | (with_reducible assumption) | assumption)
              obtain ⟨ad124, e124, hx124_0, hx124_1⟩ := at_T41 (Kd.R_reads' HO123.out).2.2 0 p124 q124
              cases e124
              have qi124 : (0 < t121.length) = True := eq_true (by omega)
              (try rw [show ((0 : Int)).toNat = 0 from rfl] at hx124_0)
              (try rw [show 0 * 2 = 0 from rfl] at hx124_0)
              (try rw [Addr.add_zero'] at hx124_0)
              (try rw [show ((0 : Int)).toNat = 0 from rfl] at hx124_1)
              (try rw [show 0 * 2 = 0 from rfl] at hx124_1)
              (try rw [Addr.add_zero'] at hx124_1)
              replace p124 := eq_true p124
              replace q124 := eq_true q124
              have p125 : 0 ≤ (1 : Int) := (by omega)
              have q125 : 1 < (t121.length : Int) := of_decide_eq_true (by first | (with_reducible assumption) | assumption)
              obtain ⟨ad125, e125, hx125_0, hx125_1⟩ := at_T41 (Kd.R_reads' HO123.out).2.2 1 p125 q125
              obtain rfl : ad124 = ad125 := (by injection e125)
              (try simp only [show (1 : Int).toNat = 1 from rfl, Nat.reduceMul, Nat.reduceEqDiff, Go.Addr.add, ↓reduceIte] at hx125_0)
              (try simp only [show (1 : Int).toNat = 1 from rfl, Nat.reduceMul, Nat.reduceEqDiff, Go.Addr.add, ↓reduceIte] at hx125_1)
              have qi125 : (1 < t121.length) = True := eq_true (by omega)
              (try rw [show ((1 : Int)).toNat = 1 from rfl] at hx125_0)
              (try rw [show 1 * 2 = 2 from rfl] at hx125_0)
              (try rw [show ((1 : Int)).toNat = 1 from rfl] at hx125_1)
              (try rw [show 1 * 2 = 2 from rfl] at hx125_1)
              replace p125 := eq_true p125
              replace q125 := eq_true q125
              have p126 : 0 ≤ (2 : Int) := (by omega)
              have q126 : 2 < (t121.length : Int) := of_decide_eq_true (by first | (with_reducible assumption) | assumption)
              obtain ⟨ad126, e126, hx126_0, hx126_1⟩ := at_T41 (Kd.R_reads' HO123.out).2.2 2 p126 q126
              obtain rfl : ad124 = ad126 := (by injection e126)
              (try simp only [show (2 : Int).toNat = 2 from rfl, Nat.reduceMul, Nat.reduceEqDiff, Go.Addr.add, ↓reduceIte] at hx126_0)
              (try simp only [show (2 : Int).toNat = 2 from rfl, Nat.reduceMul, Nat.reduceEqDiff, Go.Addr.add, ↓reduceIte] at hx126_1)
              have qi126 : (2 < t121.length) = True := eq_true (by omega)
              (try rw [show ((2 : Int)).toNat = 2 from rfl] at hx126_0)
              (try rw [show 2 * 2 = 4 from rfl] at hx126_0)
              (try rw [show ((2 : Int)).toNat = 2 from rfl] at hx126_1)
              (try rw [show 2 * 2 = 4 from rfl] at hx126_1)
              replace p126 := eq_true p126
              replace q126 := eq_true q126
              have p127 : 0 ≤ (3 : Int) := (by omega)
              have q127 : 3 < (t121.length : Int) := of_decide_eq_true (by first | (with_reducible assumption) | assumption)
              obtain ⟨ad127, e127, hx127_0, hx127_1⟩ := at_T41 (Kd.R_reads' HO123.out).2.2 3 p127 q127
              obtain rfl : ad124 = ad127 := (by injection e127)
              (try simp only [show (3 : Int).toNat = 3 from rfl, Nat.reduceMul, Nat.reduceEqDiff, Go.Addr.add, ↓reduceIte] at hx127_0)
              (try simp only [show (3 : Int).toNat = 3 from rfl, Nat.reduceMul, Nat.reduceEqDiff, Go.Addr.add, ↓reduceIte] at hx127_1)
              have qi127 : (3 < t121.length) = True := eq_true (by omega)
              (try rw [show ((3 : Int)).toNat = 3 from rfl] at hx127_0)
              (try rw [show 3 * 2 = 6 from rfl] at hx127_0)
              (try rw [show ((3 : Int)).toNat = 3 from rfl] at hx127_1)
              (try rw [show 3 * 2 = 6 from rfl] at hx127_1)
              replace p127 := eq_true p127
              replace q127 := eq_true q127
              go_wp2
              repeat (go_quiet (fail); try go_wp2)
              go_meet
              case rel => exact ⟨_, (((wrap64 ((wrap64 (((rd_T41 t121 0).f1) + ((rd_T41 t121 1).f1))) + ((rd_T41 t121 2).f1))) != ((rd_T41 t121 3).f1))), (by first | rfl | (simp; done) | (simp [*]; done)), H', ⟨by first | omega | exact Nat.le_refl _⟩, ⟨by (with_reducible repeat (first | apply Kd.R_alloc | apply Kd.R_drewN | apply Kd.R_drew)); exact HO123.out⟩, ⟨by repeat (first | (with_reducible first | exact HB.out | apply below_alloc | apply pw_below_drewN | apply below_drew1) | exact HB.out)⟩⟩
            · rw [if_neg c16] at H
              exact absurd H (by simp)
          · rw [if_neg c15] at H
            exact absurd H (by simp)
        · rw [if_neg c14] at H
          exact absurd H (by simp)
      · rw [if_neg c13] at H
        exact absurd H (by simp)
    · rw [if_neg c12] at H
      have c12b0 : ((t121.length : Int) == 4) = false := beq_eq_false_iff_ne.mpr c12
      have c12b1 : ((t121.length : Int) != 4) = true := bne_iff_ne.mpr c12
      (first | rw [c12b0] | (simp only [i64_w, i32_w]; rw [c12b0]) | skip)
      have H' := Aside0.mk H
      clear H
      obtain ⟨Ao18, co18, eo18⟩ := Kd.R_slice HO123.out
      subst eo18
      go_wp2
      repeat (go_quiet (fail); try go_wp2)
      go_meet
      case rel => exact ⟨_, (true), (by first | rfl | (simp; done) | (simp [*]; done)), H', ⟨by first | omega | exact Nat.le_refl _⟩, ⟨by (with_reducible repeat (first | apply Kd.R_alloc | apply Kd.R_drewN | apply Kd.R_drew)); exact HO123.out⟩, ⟨by repeat (first | (with_reducible first | exact HB.out | apply below_alloc | apply pw_below_drewN | apply below_drew1) | exact HB.out)⟩⟩
  case rest =>
    clear HC10
    try clear c1
    try clear p1
    try clear q1
    try clear hx1
    try clear qi1
    try clear p2
    try clear p6
    try clear c11
    try clear c12
    try clear c12b0
    try clear c12b1
    try clear p12
    try clear q12
    try clear hx12
    try clear qi12
    try clear c13
    try clear c13b0
    try clear c13b1
    try clear c14
    try clear c14b0
    try clear c14b1
    try clear c15
    try clear c15b0
    try clear c15b1
    try clear c16
    try clear c16b0
    try clear c16b1
    try clear hx124_0
    try clear hx124_1
    try clear hx125_0
    try clear hx125_1
    try clear hx126_0
    try clear hx126_1
    try clear hx127_0
    try clear hx127_1
    try clear p124
    try clear p125
    try clear p126
    try clear p127
    try clear q124
    try clear q125
    try clear q126
    try clear q127
    obtain ⟨kq, x56_9, rfl, HA, HJ9, HO_9, HB⟩ := hcut
    cases kq with
    | zero => exact absurd HA.out (by simp [scutagelaw12_BridgeSums.j0])
    | succ kj9 =>
      have H := HA.out
      clear HA
      simp only [scutagelaw12_BridgeSums.j0] at H
      by_cases c19 : x56_9 = true
      · subst c19
        have H1 : (some false) = some r := by rw [if_pos rfl] at H; exact H
        clear H
        have H := H1
        clear H1
        obtain rfl := Option.some.inj H
        go_wp2
        repeat (go_quiet (fail); try go_wp2)
        go_ret
        exact ⟨by first | rfl | (simp [errW_none, errW_some] <;> rfl) | (simp [*, errW_none, errW_some] <;> rfl), by repeat (first | (with_reducible first | exact HB.out | apply below_alloc | apply pw_below_drewN | apply below_drew1) | exact HB.out)⟩
      · replace c19 := Bool.eq_false_iff.mpr c19
        subst c19
        have H1 : ((bridge_Income.f kj9 (wrap64 (t117 - 100000)) (wrap64 (t118 - 100000)) (wrap64 (t119 - 100000))).bind fun bt128 => ((bridge_Income.f kj9 (wrap64 (t117 - 100000)) (wrap64 ((wrap64 (t118 - 100000)) + t120)) (wrap64 (t119 - 100000))).bind fun bt130 => ((bridge_Income.f kj9 (wrap64 (t117 - 100000)) (wrap64 (t118 - 100000)) (wrap64 ((wrap64 (t119 - 100000)) + t120))).bind fun bt132 => ((bridge_Income.f kj9 (wrap64 (-(wrap64 (t117 - 100000)))) (wrap64 (-(wrap64 (t118 - 100000)))) (wrap64 (-(wrap64 (t119 - 100000))))).bind fun bt134 => (if 3 < (t121.length : Int) then (if bt128.1 = ((rd_T41 t121 3).f1) then (if bt130.1 = (wrap64 (bt128.1 + t120)) then (if bt132.1 = (wrap64 (bt128.1 - t120)) then (if bt134.1 = (wrap64 (-bt128.1)) then ((scutagelaw12_wakes.f kj9).bind fun t137 => (some t137)) else (some false)) else (some false)) else (some false)) else (some false)) else (none)))))) = some r := by rw [if_neg (show ¬ (false = true) by decide)] at H; exact H
        clear H
        have H := H1
        clear H1
        replace H := Option.bind_eq_some_iff.mp H
        obtain ⟨⟨t128, t129⟩, A200, H⟩ := H
        replace H : ((bridge_Income.f kj9 (wrap64 (t117 - 100000)) (wrap64 ((wrap64 (t118 - 100000)) + t120)) (wrap64 (t119 - 100000))).bind fun bt130 => ((bridge_Income.f kj9 (wrap64 (t117 - 100000)) (wrap64 (t118 - 100000)) (wrap64 ((wrap64 (t119 - 100000)) + t120))).bind fun bt132 => ((bridge_Income.f kj9 (wrap64 (-(wrap64 (t117 - 100000)))) (wrap64 (-(wrap64 (t118 - 100000)))) (wrap64 (-(wrap64 (t119 - 100000))))).bind fun bt134 => (if 3 < (t121.length : Int) then (if t128 = ((rd_T41 t121 3).f1) then (if bt130.1 = (wrap64 (t128 + t120)) then (if bt132.1 = (wrap64 (t128 - t120)) then (if bt134.1 = (wrap64 (-t128)) then ((scutagelaw12_wakes.f kj9).bind fun t137 => (some t137)) else (some false)) else (some false)) else (some false)) else (some false)) else (none))))) = some r := H
        have A20 := Aside0.mk A200
        clear A200
        replace H := Option.bind_eq_some_iff.mp H
        obtain ⟨⟨t130, t131⟩, A210, H⟩ := H
        replace H : ((bridge_Income.f kj9 (wrap64 (t117 - 100000)) (wrap64 (t118 - 100000)) (wrap64 ((wrap64 (t119 - 100000)) + t120))).bind fun bt132 => ((bridge_Income.f kj9 (wrap64 (-(wrap64 (t117 - 100000)))) (wrap64 (-(wrap64 (t118 - 100000)))) (wrap64 (-(wrap64 (t119 - 100000))))).bind fun bt134 => (if 3 < (t121.length : Int) then (if t128 = ((rd_T41 t121 3).f1) then (if t130 = (wrap64 (t128 + t120)) then (if bt132.1 = (wrap64 (t128 - t120)) then (if bt134.1 = (wrap64 (-t128)) then ((scutagelaw12_wakes.f kj9).bind fun t137 => (some t137)) else (some false)) else (some false)) else (some false)) else (some false)) else (none)))) = some r := H
        have A21 := Aside0.mk A210
        clear A210
        replace H := Option.bind_eq_some_iff.mp H
        obtain ⟨⟨t132, t133⟩, A220, H⟩ := H
        replace H : ((bridge_Income.f kj9 (wrap64 (-(wrap64 (t117 - 100000)))) (wrap64 (-(wrap64 (t118 - 100000)))) (wrap64 (-(wrap64 (t119 - 100000))))).bind fun bt134 => (if 3 < (t121.length : Int) then (if t128 = ((rd_T41 t121 3).f1) then (if t130 = (wrap64 (t128 + t120)) then (if t132 = (wrap64 (t128 - t120)) then (if bt134.1 = (wrap64 (-t128)) then ((scutagelaw12_wakes.f kj9).bind fun t137 => (some t137)) else (some false)) else (some false)) else (some false)) else (some false)) else (none))) = some r := H
        have A22 := Aside0.mk A220
        clear A220
        replace H := Option.bind_eq_some_iff.mp H
        obtain ⟨⟨t134, t135⟩, A230, H⟩ := H
        replace H : (if 3 < (t121.length : Int) then (if t128 = ((rd_T41 t121 3).f1) then (if t130 = (wrap64 (t128 + t120)) then (if t132 = (wrap64 (t128 - t120)) then (if t134 = (wrap64 (-t128)) then ((scutagelaw12_wakes.f kj9).bind fun t137 => (some t137)) else (some false)) else (some false)) else (some false)) else (some false)) else (none)) = some r := H
        have A23 := Aside0.mk A230
        clear A230
        by_cases c24 : 3 < (t121.length : Int)
        · rw [if_pos c24] at H
          have c24b0 : decide (3 < (t121.length : Int)) = true := decide_eq_true c24
          have c24b1 : decide (3 < t121.length) = true := decide_eq_true (by omega)
          clear c24
          by_cases c25 : t128 = ((rd_T41 t121 3).f1)
          · rw [if_pos c25] at H
            have c25b0 : (t128 == ((rd_T41 t121 3).f1)) = true := beq_iff_eq.mpr c25
            have c25b1 : (t128 != ((rd_T41 t121 3).f1)) = false := bne_eq_false_iff_eq.mpr c25
            clear c25
            by_cases c26 : t130 = (wrap64 (t128 + t120))
            · rw [if_pos c26] at H
              have c26b0 : (t130 == (wrap64 (t128 + t120))) = true := beq_iff_eq.mpr c26
              have c26b1 : (t130 != (wrap64 (t128 + t120))) = false := bne_eq_false_iff_eq.mpr c26
              clear c26
              by_cases c27 : t132 = (wrap64 (t128 - t120))
              · rw [if_pos c27] at H
                have c27b0 : (t132 == (wrap64 (t128 - t120))) = true := beq_iff_eq.mpr c27
                have c27b1 : (t132 != (wrap64 (t128 - t120))) = false := bne_eq_false_iff_eq.mpr c27
                clear c27
                by_cases c28 : t134 = (wrap64 (-t128))
                · rw [if_pos c28] at H
                  have c28b0 : (t134 == (wrap64 (-t128))) = true := beq_iff_eq.mpr c28
                  have c28b1 : (t134 != (wrap64 (-t128))) = false := bne_eq_false_iff_eq.mpr c28
                  clear c28
                  replace H := Option.bind_eq_some_iff.mp H
                  obtain ⟨t137, A290, H⟩ := H
                  replace H : (some t137) = some r := H
                  have A29 := Aside0.mk A290
                  clear A290
                  obtain rfl := Option.some.inj H
                  go_wp2_with (first | (go_at_call 30; (with_reducible refine (bridge_Income.calls kj9 (wrap64 (t117 - 100000)) (wrap64 (t118 - 100000)) (wrap64 (t119 - 100000)) t128 t129 _ A20.out).mono ?_); rintro e w30 ⟨rfl, hb⟩; have n0_ := Aside0.mk (Kd.R_below (by (with_reducible repeat (first | apply Kd.R_alloc | apply Kd.R_drewN | apply Kd.R_drew)); exact HO_9.out) hb); have n1_ := Aside0.mk (below_step (by repeat (first | (with_reducible first | exact HB.out | apply below_alloc | apply pw_below_drewN | apply below_drew1) | exact HB.out)) hb); clear HO_9; clear HB; have HO_9 := n0_; have HB := n1_; clear n0_ n1_; (try clear hb); (try clear hb2); (try clear hk); (try clear hi)) | (go_at_call 30; (with_reducible refine (bridge_Income.calls kj9 (wrap64 (t117 - 100000)) (wrap64 ((wrap64 (t118 - 100000)) + t120)) (wrap64 (t119 - 100000)) t130 t131 _ A21.out).mono ?_); rintro e w31 ⟨rfl, hb⟩; have n0_ := Aside0.mk (Kd.R_below (by (with_reducible repeat (first | apply Kd.R_alloc | apply Kd.R_drewN | apply Kd.R_drew)); exact HO_9.out) hb); have n1_ := Aside0.mk (below_step (by repeat (first | (with_reducible first | exact HB.out | apply below_alloc | apply pw_below_drewN | apply below_drew1) | exact HB.out)) hb); clear HO_9; clear HB; have HO_9 := n0_; have HB := n1_; clear n0_ n1_; (try clear hb); (try clear hb2); (try clear hk); (try clear hi)) | (go_at_call 30; (with_reducible refine (bridge_Income.calls kj9 (wrap64 (t117 - 100000)) (wrap64 (t118 - 100000)) (wrap64 ((wrap64 (t119 - 100000)) + t120)) t132 t133 _ A22.out).mono ?_); rintro e w32 ⟨rfl, hb⟩; have n0_ := Aside0.mk (Kd.R_below (by (with_reducible repeat (first | apply Kd.R_alloc | apply Kd.R_drewN | apply Kd.R_drew)); exact HO_9.out) hb); have n1_ := Aside0.mk (below_step (by repeat (first | (with_reducible first | exact HB.out | apply below_alloc | apply pw_below_drewN | apply below_drew1) | exact HB.out)) hb); clear HO_9; clear HB; have HO_9 := n0_; have HB := n1_; clear n0_ n1_; (try clear hb); (try clear hb2); (try clear hk); (try clear hi)) | (go_at_call 30; (with_reducible refine (bridge_Income.calls kj9 (wrap64 (-(wrap64 (t117 - 100000)))) (wrap64 (-(wrap64 (t118 - 100000)))) (wrap64 (-(wrap64 (t119 - 100000)))) t134 t135 _ A23.out).mono ?_); rintro e w33 ⟨rfl, hb⟩; have n0_ := Aside0.mk (Kd.R_below (by (with_reducible repeat (first | apply Kd.R_alloc | apply Kd.R_drewN | apply Kd.R_drew)); exact HO_9.out) hb); have n1_ := Aside0.mk (below_step (by repeat (first | (with_reducible first | exact HB.out | apply below_alloc | apply pw_below_drewN | apply below_drew1) | exact HB.out)) hb); clear HO_9; clear HB; have HO_9 := n0_; have HB := n1_; clear n0_ n1_; (try clear hb); (try clear hb2); (try clear hk); (try clear hi); obtain ⟨Ao34, co34, eo34⟩ := Kd.R_slice HO_9.out; subst eo34; have p136 : 0 ≤ (3 : Int) := (by omega); have q136 : 3 < (t121.length : Int) := of_decide_eq_true (by first | (with_reducible assumption) | assumption); obtain ⟨ad136, e136, hx136_0, hx136_1⟩ := at_T41 (Kd.R_reads' HO_9.out).2.2 3 p136 q136; cases e136; (try simp only [show (3 : Int).toNat = 3 from rfl, Nat.reduceMul, Nat.reduceEqDiff, Go.Addr.add, ↓reduceIte] at hx136_0); (try simp only [show (3 : Int).toNat = 3 from rfl, Nat.reduceMul, Nat.reduceEqDiff, Go.Addr.add, ↓reduceIte] at hx136_1); have qi136 : (3 < t121.length) = True := eq_true (by omega); (try rw [show ((3 : Int)).toNat = 3 from rfl] at hx136_0); (try rw [show 3 * 2 = 6 from rfl] at hx136_0); (try rw [show ((3 : Int)).toNat = 3 from rfl] at hx136_1); (try rw [show 3 * 2 = 6 from rfl] at hx136_1); replace p136 := eq_true p136; replace q136 := eq_true q136) | (go_at_call 31; (with_reducible refine (scutagelaw12_wakes.calls kj9  t137 _ A29.out).mono ?_); rintro e w35 ⟨rfl, hb⟩; have n0_ := Aside0.mk (Kd.R_below (by (with_reducible repeat (first | apply Kd.R_alloc | apply Kd.R_drewN | apply Kd.R_drew)); exact HO_9.out) hb); have n1_ := Aside0.mk (below_step (by repeat (first | (with_reducible first | exact HB.out | apply below_alloc | apply pw_below_drewN | apply below_drew1) | exact HB.out)) hb); clear HO_9; clear HB; have HO_9 := n0_; have HB := n1_; clear n0_ n1_; (try clear hb); (try clear hb2); (try clear hk); (try clear hi)))
                  repeat (go_quiet (first | (go_at_call 30; (with_reducible refine (bridge_Income.calls kj9 (wrap64 (t117 - 100000)) (wrap64 (t118 - 100000)) (wrap64 (t119 - 100000)) t128 t129 _ A20.out).mono ?_); rintro e w30 ⟨rfl, hb⟩; have n0_ := Aside0.mk (Kd.R_below (by (with_reducible repeat (first | apply Kd.R_alloc | apply Kd.R_drewN | apply Kd.R_drew)); exact HO_9.out) hb); have n1_ := Aside0.mk (below_step (by repeat (first | (with_reducible first | exact HB.out | apply below_alloc | apply pw_below_drewN | apply below_drew1) | exact HB.out)) hb); clear HO_9; clear HB; have HO_9 := n0_; have HB := n1_; clear n0_ n1_; (try clear hb); (try clear hb2); (try clear hk); (try clear hi)) | (go_at_call 30; (with_reducible refine (bridge_Income.calls kj9 (wrap64 (t117 - 100000)) (wrap64 ((wrap64 (t118 - 100000)) + t120)) (wrap64 (t119 - 100000)) t130 t131 _ A21.out).mono ?_); rintro e w31 ⟨rfl, hb⟩; have n0_ := Aside0.mk (Kd.R_below (by (with_reducible repeat (first | apply Kd.R_alloc | apply Kd.R_drewN | apply Kd.R_drew)); exact HO_9.out) hb); have n1_ := Aside0.mk (below_step (by repeat (first | (with_reducible first | exact HB.out | apply below_alloc | apply pw_below_drewN | apply below_drew1) | exact HB.out)) hb); clear HO_9; clear HB; have HO_9 := n0_; have HB := n1_; clear n0_ n1_; (try clear hb); (try clear hb2); (try clear hk); (try clear hi)) | (go_at_call 30; (with_reducible refine (bridge_Income.calls kj9 (wrap64 (t117 - 100000)) (wrap64 (t118 - 100000)) (wrap64 ((wrap64 (t119 - 100000)) + t120)) t132 t133 _ A22.out).mono ?_); rintro e w32 ⟨rfl, hb⟩; have n0_ := Aside0.mk (Kd.R_below (by (with_reducible repeat (first | apply Kd.R_alloc | apply Kd.R_drewN | apply Kd.R_drew)); exact HO_9.out) hb); have n1_ := Aside0.mk (below_step (by repeat (first | (with_reducible first | exact HB.out | apply below_alloc | apply pw_below_drewN | apply below_drew1) | exact HB.out)) hb); clear HO_9; clear HB; have HO_9 := n0_; have HB := n1_; clear n0_ n1_; (try clear hb); (try clear hb2); (try clear hk); (try clear hi)) | (go_at_call 30; (with_reducible refine (bridge_Income.calls kj9 (wrap64 (-(wrap64 (t117 - 100000)))) (wrap64 (-(wrap64 (t118 - 100000)))) (wrap64 (-(wrap64 (t119 - 100000)))) t134 t135 _ A23.out).mono ?_); rintro e w33 ⟨rfl, hb⟩; have n0_ := Aside0.mk (Kd.R_below (by (with_reducible repeat (first | apply Kd.R_alloc | apply Kd.R_drewN | apply Kd.R_drew)); exact HO_9.out) hb); have n1_ := Aside0.mk (below_step (by repeat (first | (with_reducible first | exact HB.out | apply below_alloc | apply pw_below_drewN | apply below_drew1) | exact HB.out)) hb); clear HO_9; clear HB; have HO_9 := n0_; have HB := n1_; clear n0_ n1_; (try clear hb); (try clear hb2); (try clear hk); (try clear hi); obtain ⟨Ao34, co34, eo34⟩ := Kd.R_slice HO_9.out; subst eo34; have p136 : 0 ≤ (3 : Int) := (by omega); have q136 : 3 < (t121.length : Int) := of_decide_eq_true (by first | (with_reducible assumption) | assumption); obtain ⟨ad136, e136, hx136_0, hx136_1⟩ := at_T41 (Kd.R_reads' HO_9.out).2.2 3 p136 q136; cases e136; (try simp only [show (3 : Int).toNat = 3 from rfl, Nat.reduceMul, Nat.reduceEqDiff, Go.Addr.add, ↓reduceIte] at hx136_0); (try simp only [show (3 : Int).toNat = 3 from rfl, Nat.reduceMul, Nat.reduceEqDiff, Go.Addr.add, ↓reduceIte] at hx136_1); have qi136 : (3 < t121.length) = True := eq_true (by omega); (try rw [show ((3 : Int)).toNat = 3 from rfl] at hx136_0); (try rw [show 3 * 2 = 6 from rfl] at hx136_0); (try rw [show ((3 : Int)).toNat = 3 from rfl] at hx136_1); (try rw [show 3 * 2 = 6 from rfl] at hx136_1); replace p136 := eq_true p136; replace q136 := eq_true q136) | (go_at_call 31; (with_reducible refine (scutagelaw12_wakes.calls kj9  t137 _ A29.out).mono ?_); rintro e w35 ⟨rfl, hb⟩; have n0_ := Aside0.mk (Kd.R_below (by (with_reducible repeat (first | apply Kd.R_alloc | apply Kd.R_drewN | apply Kd.R_drew)); exact HO_9.out) hb); have n1_ := Aside0.mk (below_step (by repeat (first | (with_reducible first | exact HB.out | apply below_alloc | apply pw_below_drewN | apply below_drew1) | exact HB.out)) hb); clear HO_9; clear HB; have HO_9 := n0_; have HB := n1_; clear n0_ n1_; (try clear hb); (try clear hb2); (try clear hk); (try clear hi))); try go_wp2_with (first | (go_at_call 30; (with_reducible refine (bridge_Income.calls kj9 (wrap64 (t117 - 100000)) (wrap64 (t118 - 100000)) (wrap64 (t119 - 100000)) t128 t129 _ A20.out).mono ?_); rintro e w30 ⟨rfl, hb⟩; have n0_ := Aside0.mk (Kd.R_below (by (with_reducible repeat (first | apply Kd.R_alloc | apply Kd.R_drewN | apply Kd.R_drew)); exact HO_9.out) hb); have n1_ := Aside0.mk (below_step (by repeat (first | (with_reducible first | exact HB.out | apply below_alloc | apply pw_below_drewN | apply below_drew1) | exact HB.out)) hb); clear HO_9; clear HB; have HO_9 := n0_; have HB := n1_; clear n0_ n1_; (try clear hb); (try clear hb2); (try clear hk); (try clear hi)) | (go_at_call 30; (with_reducible refine (bridge_Income.calls kj9 (wrap64 (t117 - 100000)) (wrap64 ((wrap64 (t118 - 100000)) + t120)) (wrap64 (t119 - 100000)) t130 t131 _ A21.out).mono ?_); rintro e w31 ⟨rfl, hb⟩; have n0_ := Aside0.mk (Kd.R_below (by (with_reducible repeat (first | apply Kd.R_alloc | apply Kd.R_drewN | apply Kd.R_drew)); exact HO_9.out) hb); have n1_ := Aside0.mk (below_step (by repeat (first | (with_reducible first | exact HB.out | apply below_alloc | apply pw_below_drewN | apply below_drew1) | exact HB.out)) hb); clear HO_9; clear HB; have HO_9 := n0_; have HB := n1_; clear n0_ n1_; (try clear hb); (try clear hb2); (try clear hk); (try clear hi)) | (go_at_call 30; (with_reducible refine (bridge_Income.calls kj9 (wrap64 (t117 - 100000)) (wrap64 (t118 - 100000)) (wrap64 ((wrap64 (t119 - 100000)) + t120)) t132 t133 _ A22.out).mono ?_); rintro e w32 ⟨rfl, hb⟩; have n0_ := Aside0.mk (Kd.R_below (by (with_reducible repeat (first | apply Kd.R_alloc | apply Kd.R_drewN | apply Kd.R_drew)); exact HO_9.out) hb); have n1_ := Aside0.mk (below_step (by repeat (first | (with_reducible first | exact HB.out | apply below_alloc | apply pw_below_drewN | apply below_drew1) | exact HB.out)) hb); clear HO_9; clear HB; have HO_9 := n0_; have HB := n1_; clear n0_ n1_; (try clear hb); (try clear hb2); (try clear hk); (try clear hi)) | (go_at_call 30; (with_reducible refine (bridge_Income.calls kj9 (wrap64 (-(wrap64 (t117 - 100000)))) (wrap64 (-(wrap64 (t118 - 100000)))) (wrap64 (-(wrap64 (t119 - 100000)))) t134 t135 _ A23.out).mono ?_); rintro e w33 ⟨rfl, hb⟩; have n0_ := Aside0.mk (Kd.R_below (by (with_reducible repeat (first | apply Kd.R_alloc | apply Kd.R_drewN | apply Kd.R_drew)); exact HO_9.out) hb); have n1_ := Aside0.mk (below_step (by repeat (first | (with_reducible first | exact HB.out | apply below_alloc | apply pw_below_drewN | apply below_drew1) | exact HB.out)) hb); clear HO_9; clear HB; have HO_9 := n0_; have HB := n1_; clear n0_ n1_; (try clear hb); (try clear hb2); (try clear hk); (try clear hi); obtain ⟨Ao34, co34, eo34⟩ := Kd.R_slice HO_9.out; subst eo34; have p136 : 0 ≤ (3 : Int) := (by omega); have q136 : 3 < (t121.length : Int) := of_decide_eq_true (by first | (with_reducible assumption) | assumption); obtain ⟨ad136, e136, hx136_0, hx136_1⟩ := at_T41 (Kd.R_reads' HO_9.out).2.2 3 p136 q136; cases e136; (try simp only [show (3 : Int).toNat = 3 from rfl, Nat.reduceMul, Nat.reduceEqDiff, Go.Addr.add, ↓reduceIte] at hx136_0); (try simp only [show (3 : Int).toNat = 3 from rfl, Nat.reduceMul, Nat.reduceEqDiff, Go.Addr.add, ↓reduceIte] at hx136_1); have qi136 : (3 < t121.length) = True := eq_true (by omega); (try rw [show ((3 : Int)).toNat = 3 from rfl] at hx136_0); (try rw [show 3 * 2 = 6 from rfl] at hx136_0); (try rw [show ((3 : Int)).toNat = 3 from rfl] at hx136_1); (try rw [show 3 * 2 = 6 from rfl] at hx136_1); replace p136 := eq_true p136; replace q136 := eq_true q136) | (go_at_call 31; (with_reducible refine (scutagelaw12_wakes.calls kj9  t137 _ A29.out).mono ?_); rintro e w35 ⟨rfl, hb⟩; have n0_ := Aside0.mk (Kd.R_below (by (with_reducible repeat (first | apply Kd.R_alloc | apply Kd.R_drewN | apply Kd.R_drew)); exact HO_9.out) hb); have n1_ := Aside0.mk (below_step (by repeat (first | (with_reducible first | exact HB.out | apply below_alloc | apply pw_below_drewN | apply below_drew1) | exact HB.out)) hb); clear HO_9; clear HB; have HO_9 := n0_; have HB := n1_; clear n0_ n1_; (try clear hb); (try clear hb2); (try clear hk); (try clear hi))))
                  go_ret
                  exact ⟨by first | rfl | (simp [errW_none, errW_some] <;> rfl) | (simp [*, errW_none, errW_some] <;> rfl), by repeat (first | (with_reducible first | exact HB.out | apply below_alloc | apply pw_below_drewN | apply below_drew1) | exact HB.out)⟩
                · rw [if_neg c28] at H
                  have c28b0 : (t134 == (wrap64 (-t128))) = false := beq_eq_false_iff_ne.mpr c28
                  have c28b1 : (t134 != (wrap64 (-t128))) = true := bne_iff_ne.mpr c28
                  obtain rfl := Option.some.inj H
                  go_wp2_with (first | (go_at_call 30; (with_reducible refine (bridge_Income.calls kj9 (wrap64 (t117 - 100000)) (wrap64 (t118 - 100000)) (wrap64 (t119 - 100000)) t128 t129 _ A20.out).mono ?_); rintro e w36 ⟨rfl, hb⟩; have n0_ := Aside0.mk (Kd.R_below (by (with_reducible repeat (first | apply Kd.R_alloc | apply Kd.R_drewN | apply Kd.R_drew)); exact HO_9.out) hb); have n1_ := Aside0.mk (below_step (by repeat (first | (with_reducible first | exact HB.out | apply below_alloc | apply pw_below_drewN | apply below_drew1) | exact HB.out)) hb); clear HO_9; clear HB; have HO_9 := n0_; have HB := n1_; clear n0_ n1_; (try clear hb); (try clear hb2); (try clear hk); (try clear hi)) | (go_at_call 30; (with_reducible refine (bridge_Income.calls kj9 (wrap64 (t117 - 100000)) (wrap64 ((wrap64 (t118 - 100000)) + t120)) (wrap64 (t119 - 100000)) t130 t131 _ A21.out).mono ?_); rintro e w37 ⟨rfl, hb⟩; have n0_ := Aside0.mk (Kd.R_below (by (with_reducible repeat (first | apply Kd.R_alloc | apply Kd.R_drewN | apply Kd.R_drew)); exact HO_9.out) hb); have n1_ := Aside0.mk (below_step (by repeat (first | (with_reducible first | exact HB.out | apply below_alloc | apply pw_below_drewN | apply below_drew1) | exact HB.out)) hb); clear HO_9; clear HB; have HO_9 := n0_; have HB := n1_; clear n0_ n1_; (try clear hb); (try clear hb2); (try clear hk); (try clear hi)) | (go_at_call 30; (with_reducible refine (bridge_Income.calls kj9 (wrap64 (t117 - 100000)) (wrap64 (t118 - 100000)) (wrap64 ((wrap64 (t119 - 100000)) + t120)) t132 t133 _ A22.out).mono ?_); rintro e w38 ⟨rfl, hb⟩; have n0_ := Aside0.mk (Kd.R_below (by (with_reducible repeat (first | apply Kd.R_alloc | apply Kd.R_drewN | apply Kd.R_drew)); exact HO_9.out) hb); have n1_ := Aside0.mk (below_step (by repeat (first | (with_reducible first | exact HB.out | apply below_alloc | apply pw_below_drewN | apply below_drew1) | exact HB.out)) hb); clear HO_9; clear HB; have HO_9 := n0_; have HB := n1_; clear n0_ n1_; (try clear hb); (try clear hb2); (try clear hk); (try clear hi)) | (go_at_call 30; (with_reducible refine (bridge_Income.calls kj9 (wrap64 (-(wrap64 (t117 - 100000)))) (wrap64 (-(wrap64 (t118 - 100000)))) (wrap64 (-(wrap64 (t119 - 100000)))) t134 t135 _ A23.out).mono ?_); rintro e w39 ⟨rfl, hb⟩; have n0_ := Aside0.mk (Kd.R_below (by (with_reducible repeat (first | apply Kd.R_alloc | apply Kd.R_drewN | apply Kd.R_drew)); exact HO_9.out) hb); have n1_ := Aside0.mk (below_step (by repeat (first | (with_reducible first | exact HB.out | apply below_alloc | apply pw_below_drewN | apply below_drew1) | exact HB.out)) hb); clear HO_9; clear HB; have HO_9 := n0_; have HB := n1_; clear n0_ n1_; (try clear hb); (try clear hb2); (try clear hk); (try clear hi); obtain ⟨Ao40, co40, eo40⟩ := Kd.R_slice HO_9.out; subst eo40; have p136 : 0 ≤ (3 : Int) := (by omega); have q136 : 3 < (t121.length : Int) := of_decide_eq_true (by first | (with_reducible assumption) | assumption); obtain ⟨ad136, e136, hx136_0, hx136_1⟩ := at_T41 (Kd.R_reads' HO_9.out).2.2 3 p136 q136; cases e136; (try simp only [show (3 : Int).toNat = 3 from rfl, Nat.reduceMul, Nat.reduceEqDiff, Go.Addr.add, ↓reduceIte] at hx136_0); (try simp only [show (3 : Int).toNat = 3 from rfl, Nat.reduceMul, Nat.reduceEqDiff, Go.Addr.add, ↓reduceIte] at hx136_1); have qi136 : (3 < t121.length) = True := eq_true (by omega); (try rw [show ((3 : Int)).toNat = 3 from rfl] at hx136_0); (try rw [show 3 * 2 = 6 from rfl] at hx136_0); (try rw [show ((3 : Int)).toNat = 3 from rfl] at hx136_1); (try rw [show 3 * 2 = 6 from rfl] at hx136_1); replace p136 := eq_true p136; replace q136 := eq_true q136))
                  repeat (go_quiet (first | (go_at_call 30; (with_reducible refine (bridge_Income.calls kj9 (wrap64 (t117 - 100000)) (wrap64 (t118 - 100000)) (wrap64 (t119 - 100000)) t128 t129 _ A20.out).mono ?_); rintro e w36 ⟨rfl, hb⟩; have n0_ := Aside0.mk (Kd.R_below (by (with_reducible repeat (first | apply Kd.R_alloc | apply Kd.R_drewN | apply Kd.R_drew)); exact HO_9.out) hb); have n1_ := Aside0.mk (below_step (by repeat (first | (with_reducible first | exact HB.out | apply below_alloc | apply pw_below_drewN | apply below_drew1) | exact HB.out)) hb); clear HO_9; clear HB; have HO_9 := n0_; have HB := n1_; clear n0_ n1_; (try clear hb); (try clear hb2); (try clear hk); (try clear hi)) | (go_at_call 30; (with_reducible refine (bridge_Income.calls kj9 (wrap64 (t117 - 100000)) (wrap64 ((wrap64 (t118 - 100000)) + t120)) (wrap64 (t119 - 100000)) t130 t131 _ A21.out).mono ?_); rintro e w37 ⟨rfl, hb⟩; have n0_ := Aside0.mk (Kd.R_below (by (with_reducible repeat (first | apply Kd.R_alloc | apply Kd.R_drewN | apply Kd.R_drew)); exact HO_9.out) hb); have n1_ := Aside0.mk (below_step (by repeat (first | (with_reducible first | exact HB.out | apply below_alloc | apply pw_below_drewN | apply below_drew1) | exact HB.out)) hb); clear HO_9; clear HB; have HO_9 := n0_; have HB := n1_; clear n0_ n1_; (try clear hb); (try clear hb2); (try clear hk); (try clear hi)) | (go_at_call 30; (with_reducible refine (bridge_Income.calls kj9 (wrap64 (t117 - 100000)) (wrap64 (t118 - 100000)) (wrap64 ((wrap64 (t119 - 100000)) + t120)) t132 t133 _ A22.out).mono ?_); rintro e w38 ⟨rfl, hb⟩; have n0_ := Aside0.mk (Kd.R_below (by (with_reducible repeat (first | apply Kd.R_alloc | apply Kd.R_drewN | apply Kd.R_drew)); exact HO_9.out) hb); have n1_ := Aside0.mk (below_step (by repeat (first | (with_reducible first | exact HB.out | apply below_alloc | apply pw_below_drewN | apply below_drew1) | exact HB.out)) hb); clear HO_9; clear HB; have HO_9 := n0_; have HB := n1_; clear n0_ n1_; (try clear hb); (try clear hb2); (try clear hk); (try clear hi)) | (go_at_call 30; (with_reducible refine (bridge_Income.calls kj9 (wrap64 (-(wrap64 (t117 - 100000)))) (wrap64 (-(wrap64 (t118 - 100000)))) (wrap64 (-(wrap64 (t119 - 100000)))) t134 t135 _ A23.out).mono ?_); rintro e w39 ⟨rfl, hb⟩; have n0_ := Aside0.mk (Kd.R_below (by (with_reducible repeat (first | apply Kd.R_alloc | apply Kd.R_drewN | apply Kd.R_drew)); exact HO_9.out) hb); have n1_ := Aside0.mk (below_step (by repeat (first | (with_reducible first | exact HB.out | apply below_alloc | apply pw_below_drewN | apply below_drew1) | exact HB.out)) hb); clear HO_9; clear HB; have HO_9 := n0_; have HB := n1_; clear n0_ n1_; (try clear hb); (try clear hb2); (try clear hk); (try clear hi); obtain ⟨Ao40, co40, eo40⟩ := Kd.R_slice HO_9.out; subst eo40; have p136 : 0 ≤ (3 : Int) := (by omega); have q136 : 3 < (t121.length : Int) := of_decide_eq_true (by first | (with_reducible assumption) | assumption); obtain ⟨ad136, e136, hx136_0, hx136_1⟩ := at_T41 (Kd.R_reads' HO_9.out).2.2 3 p136 q136; cases e136; (try simp only [show (3 : Int).toNat = 3 from rfl, Nat.reduceMul, Nat.reduceEqDiff, Go.Addr.add, ↓reduceIte] at hx136_0); (try simp only [show (3 : Int).toNat = 3 from rfl, Nat.reduceMul, Nat.reduceEqDiff, Go.Addr.add, ↓reduceIte] at hx136_1); have qi136 : (3 < t121.length) = True := eq_true (by omega); (try rw [show ((3 : Int)).toNat = 3 from rfl] at hx136_0); (try rw [show 3 * 2 = 6 from rfl] at hx136_0); (try rw [show ((3 : Int)).toNat = 3 from rfl] at hx136_1); (try rw [show 3 * 2 = 6 from rfl] at hx136_1); replace p136 := eq_true p136; replace q136 := eq_true q136)); try go_wp2_with (first | (go_at_call 30; (with_reducible refine (bridge_Income.calls kj9 (wrap64 (t117 - 100000)) (wrap64 (t118 - 100000)) (wrap64 (t119 - 100000)) t128 t129 _ A20.out).mono ?_); rintro e w36 ⟨rfl, hb⟩; have n0_ := Aside0.mk (Kd.R_below (by (with_reducible repeat (first | apply Kd.R_alloc | apply Kd.R_drewN | apply Kd.R_drew)); exact HO_9.out) hb); have n1_ := Aside0.mk (below_step (by repeat (first | (with_reducible first | exact HB.out | apply below_alloc | apply pw_below_drewN | apply below_drew1) | exact HB.out)) hb); clear HO_9; clear HB; have HO_9 := n0_; have HB := n1_; clear n0_ n1_; (try clear hb); (try clear hb2); (try clear hk); (try clear hi)) | (go_at_call 30; (with_reducible refine (bridge_Income.calls kj9 (wrap64 (t117 - 100000)) (wrap64 ((wrap64 (t118 - 100000)) + t120)) (wrap64 (t119 - 100000)) t130 t131 _ A21.out).mono ?_); rintro e w37 ⟨rfl, hb⟩; have n0_ := Aside0.mk (Kd.R_below (by (with_reducible repeat (first | apply Kd.R_alloc | apply Kd.R_drewN | apply Kd.R_drew)); exact HO_9.out) hb); have n1_ := Aside0.mk (below_step (by repeat (first | (with_reducible first | exact HB.out | apply below_alloc | apply pw_below_drewN | apply below_drew1) | exact HB.out)) hb); clear HO_9; clear HB; have HO_9 := n0_; have HB := n1_; clear n0_ n1_; (try clear hb); (try clear hb2); (try clear hk); (try clear hi)) | (go_at_call 30; (with_reducible refine (bridge_Income.calls kj9 (wrap64 (t117 - 100000)) (wrap64 (t118 - 100000)) (wrap64 ((wrap64 (t119 - 100000)) + t120)) t132 t133 _ A22.out).mono ?_); rintro e w38 ⟨rfl, hb⟩; have n0_ := Aside0.mk (Kd.R_below (by (with_reducible repeat (first | apply Kd.R_alloc | apply Kd.R_drewN | apply Kd.R_drew)); exact HO_9.out) hb); have n1_ := Aside0.mk (below_step (by repeat (first | (with_reducible first | exact HB.out | apply below_alloc | apply pw_below_drewN | apply below_drew1) | exact HB.out)) hb); clear HO_9; clear HB; have HO_9 := n0_; have HB := n1_; clear n0_ n1_; (try clear hb); (try clear hb2); (try clear hk); (try clear hi)) | (go_at_call 30; (with_reducible refine (bridge_Income.calls kj9 (wrap64 (-(wrap64 (t117 - 100000)))) (wrap64 (-(wrap64 (t118 - 100000)))) (wrap64 (-(wrap64 (t119 - 100000)))) t134 t135 _ A23.out).mono ?_); rintro e w39 ⟨rfl, hb⟩; have n0_ := Aside0.mk (Kd.R_below (by (with_reducible repeat (first | apply Kd.R_alloc | apply Kd.R_drewN | apply Kd.R_drew)); exact HO_9.out) hb); have n1_ := Aside0.mk (below_step (by repeat (first | (with_reducible first | exact HB.out | apply below_alloc | apply pw_below_drewN | apply below_drew1) | exact HB.out)) hb); clear HO_9; clear HB; have HO_9 := n0_; have HB := n1_; clear n0_ n1_; (try clear hb); (try clear hb2); (try clear hk); (try clear hi); obtain ⟨Ao40, co40, eo40⟩ := Kd.R_slice HO_9.out; subst eo40; have p136 : 0 ≤ (3 : Int) := (by omega); have q136 : 3 < (t121.length : Int) := of_decide_eq_true (by first | (with_reducible assumption) | assumption); obtain ⟨ad136, e136, hx136_0, hx136_1⟩ := at_T41 (Kd.R_reads' HO_9.out).2.2 3 p136 q136; cases e136; (try simp only [show (3 : Int).toNat = 3 from rfl, Nat.reduceMul, Nat.reduceEqDiff, Go.Addr.add, ↓reduceIte] at hx136_0); (try simp only [show (3 : Int).toNat = 3 from rfl, Nat.reduceMul, Nat.reduceEqDiff, Go.Addr.add, ↓reduceIte] at hx136_1); have qi136 : (3 < t121.length) = True := eq_true (by omega); (try rw [show ((3 : Int)).toNat = 3 from rfl] at hx136_0); (try rw [show 3 * 2 = 6 from rfl] at hx136_0); (try rw [show ((3 : Int)).toNat = 3 from rfl] at hx136_1); (try rw [show 3 * 2 = 6 from rfl] at hx136_1); replace p136 := eq_true p136; replace q136 := eq_true q136)))
                  go_ret
                  exact ⟨by first | rfl | (simp [errW_none, errW_some] <;> rfl) | (simp [*, errW_none, errW_some] <;> rfl), by repeat (first | (with_reducible first | exact HB.out | apply below_alloc | apply pw_below_drewN | apply below_drew1) | exact HB.out)⟩
              · rw [if_neg c27] at H
                have c27b0 : (t132 == (wrap64 (t128 - t120))) = false := beq_eq_false_iff_ne.mpr c27
                have c27b1 : (t132 != (wrap64 (t128 - t120))) = true := bne_iff_ne.mpr c27
                obtain rfl := Option.some.inj H
                go_wp2_with (first | (go_at_call 30; (with_reducible refine (bridge_Income.calls kj9 (wrap64 (t117 - 100000)) (wrap64 (t118 - 100000)) (wrap64 (t119 - 100000)) t128 t129 _ A20.out).mono ?_); rintro e w41 ⟨rfl, hb⟩; have n0_ := Aside0.mk (Kd.R_below (by (with_reducible repeat (first | apply Kd.R_alloc | apply Kd.R_drewN | apply Kd.R_drew)); exact HO_9.out) hb); have n1_ := Aside0.mk (below_step (by repeat (first | (with_reducible first | exact HB.out | apply below_alloc | apply pw_below_drewN | apply below_drew1) | exact HB.out)) hb); clear HO_9; clear HB; have HO_9 := n0_; have HB := n1_; clear n0_ n1_; (try clear hb); (try clear hb2); (try clear hk); (try clear hi)) | (go_at_call 30; (with_reducible refine (bridge_Income.calls kj9 (wrap64 (t117 - 100000)) (wrap64 ((wrap64 (t118 - 100000)) + t120)) (wrap64 (t119 - 100000)) t130 t131 _ A21.out).mono ?_); rintro e w42 ⟨rfl, hb⟩; have n0_ := Aside0.mk (Kd.R_below (by (with_reducible repeat (first | apply Kd.R_alloc | apply Kd.R_drewN | apply Kd.R_drew)); exact HO_9.out) hb); have n1_ := Aside0.mk (below_step (by repeat (first | (with_reducible first | exact HB.out | apply below_alloc | apply pw_below_drewN | apply below_drew1) | exact HB.out)) hb); clear HO_9; clear HB; have HO_9 := n0_; have HB := n1_; clear n0_ n1_; (try clear hb); (try clear hb2); (try clear hk); (try clear hi)) | (go_at_call 30; (with_reducible refine (bridge_Income.calls kj9 (wrap64 (t117 - 100000)) (wrap64 (t118 - 100000)) (wrap64 ((wrap64 (t119 - 100000)) + t120)) t132 t133 _ A22.out).mono ?_); rintro e w43 ⟨rfl, hb⟩; have n0_ := Aside0.mk (Kd.R_below (by (with_reducible repeat (first | apply Kd.R_alloc | apply Kd.R_drewN | apply Kd.R_drew)); exact HO_9.out) hb); have n1_ := Aside0.mk (below_step (by repeat (first | (with_reducible first | exact HB.out | apply below_alloc | apply pw_below_drewN | apply below_drew1) | exact HB.out)) hb); clear HO_9; clear HB; have HO_9 := n0_; have HB := n1_; clear n0_ n1_; (try clear hb); (try clear hb2); (try clear hk); (try clear hi)) | (go_at_call 30; (with_reducible refine (bridge_Income.calls kj9 (wrap64 (-(wrap64 (t117 - 100000)))) (wrap64 (-(wrap64 (t118 - 100000)))) (wrap64 (-(wrap64 (t119 - 100000)))) t134 t135 _ A23.out).mono ?_); rintro e w44 ⟨rfl, hb⟩; have n0_ := Aside0.mk (Kd.R_below (by (with_reducible repeat (first | apply Kd.R_alloc | apply Kd.R_drewN | apply Kd.R_drew)); exact HO_9.out) hb); have n1_ := Aside0.mk (below_step (by repeat (first | (with_reducible first | exact HB.out | apply below_alloc | apply pw_below_drewN | apply below_drew1) | exact HB.out)) hb); clear HO_9; clear HB; have HO_9 := n0_; have HB := n1_; clear n0_ n1_; (try clear hb); (try clear hb2); (try clear hk); (try clear hi); obtain ⟨Ao45, co45, eo45⟩ := Kd.R_slice HO_9.out; subst eo45; have p136 : 0 ≤ (3 : Int) := (by omega); have q136 : 3 < (t121.length : Int) := of_decide_eq_true (by first | (with_reducible assumption) | assumption); obtain ⟨ad136, e136, hx136_0, hx136_1⟩ := at_T41 (Kd.R_reads' HO_9.out).2.2 3 p136 q136; cases e136; (try simp only [show (3 : Int).toNat = 3 from rfl, Nat.reduceMul, Nat.reduceEqDiff, Go.Addr.add, ↓reduceIte] at hx136_0); (try simp only [show (3 : Int).toNat = 3 from rfl, Nat.reduceMul, Nat.reduceEqDiff, Go.Addr.add, ↓reduceIte] at hx136_1); have qi136 : (3 < t121.length) = True := eq_true (by omega); (try rw [show ((3 : Int)).toNat = 3 from rfl] at hx136_0); (try rw [show 3 * 2 = 6 from rfl] at hx136_0); (try rw [show ((3 : Int)).toNat = 3 from rfl] at hx136_1); (try rw [show 3 * 2 = 6 from rfl] at hx136_1); replace p136 := eq_true p136; replace q136 := eq_true q136))
                repeat (go_quiet (first | (go_at_call 30; (with_reducible refine (bridge_Income.calls kj9 (wrap64 (t117 - 100000)) (wrap64 (t118 - 100000)) (wrap64 (t119 - 100000)) t128 t129 _ A20.out).mono ?_); rintro e w41 ⟨rfl, hb⟩; have n0_ := Aside0.mk (Kd.R_below (by (with_reducible repeat (first | apply Kd.R_alloc | apply Kd.R_drewN | apply Kd.R_drew)); exact HO_9.out) hb); have n1_ := Aside0.mk (below_step (by repeat (first | (with_reducible first | exact HB.out | apply below_alloc | apply pw_below_drewN | apply below_drew1) | exact HB.out)) hb); clear HO_9; clear HB; have HO_9 := n0_; have HB := n1_; clear n0_ n1_; (try clear hb); (try clear hb2); (try clear hk); (try clear hi)) | (go_at_call 30; (with_reducible refine (bridge_Income.calls kj9 (wrap64 (t117 - 100000)) (wrap64 ((wrap64 (t118 - 100000)) + t120)) (wrap64 (t119 - 100000)) t130 t131 _ A21.out).mono ?_); rintro e w42 ⟨rfl, hb⟩; have n0_ := Aside0.mk (Kd.R_below (by (with_reducible repeat (first | apply Kd.R_alloc | apply Kd.R_drewN | apply Kd.R_drew)); exact HO_9.out) hb); have n1_ := Aside0.mk (below_step (by repeat (first | (with_reducible first | exact HB.out | apply below_alloc | apply pw_below_drewN | apply below_drew1) | exact HB.out)) hb); clear HO_9; clear HB; have HO_9 := n0_; have HB := n1_; clear n0_ n1_; (try clear hb); (try clear hb2); (try clear hk); (try clear hi)) | (go_at_call 30; (with_reducible refine (bridge_Income.calls kj9 (wrap64 (t117 - 100000)) (wrap64 (t118 - 100000)) (wrap64 ((wrap64 (t119 - 100000)) + t120)) t132 t133 _ A22.out).mono ?_); rintro e w43 ⟨rfl, hb⟩; have n0_ := Aside0.mk (Kd.R_below (by (with_reducible repeat (first | apply Kd.R_alloc | apply Kd.R_drewN | apply Kd.R_drew)); exact HO_9.out) hb); have n1_ := Aside0.mk (below_step (by repeat (first | (with_reducible first | exact HB.out | apply below_alloc | apply pw_below_drewN | apply below_drew1) | exact HB.out)) hb); clear HO_9; clear HB; have HO_9 := n0_; have HB := n1_; clear n0_ n1_; (try clear hb); (try clear hb2); (try clear hk); (try clear hi)) | (go_at_call 30; (with_reducible refine (bridge_Income.calls kj9 (wrap64 (-(wrap64 (t117 - 100000)))) (wrap64 (-(wrap64 (t118 - 100000)))) (wrap64 (-(wrap64 (t119 - 100000)))) t134 t135 _ A23.out).mono ?_); rintro e w44 ⟨rfl, hb⟩; have n0_ := Aside0.mk (Kd.R_below (by (with_reducible repeat (first | apply Kd.R_alloc | apply Kd.R_drewN | apply Kd.R_drew)); exact HO_9.out) hb); have n1_ := Aside0.mk (below_step (by repeat (first | (with_reducible first | exact HB.out | apply below_alloc | apply pw_below_drewN | apply below_drew1) | exact HB.out)) hb); clear HO_9; clear HB; have HO_9 := n0_; have HB := n1_; clear n0_ n1_; (try clear hb); (try clear hb2); (try clear hk); (try clear hi); obtain ⟨Ao45, co45, eo45⟩ := Kd.R_slice HO_9.out; subst eo45; have p136 : 0 ≤ (3 : Int) := (by omega); have q136 : 3 < (t121.length : Int) := of_decide_eq_true (by first | (with_reducible assumption) | assumption); obtain ⟨ad136, e136, hx136_0, hx136_1⟩ := at_T41 (Kd.R_reads' HO_9.out).2.2 3 p136 q136; cases e136; (try simp only [show (3 : Int).toNat = 3 from rfl, Nat.reduceMul, Nat.reduceEqDiff, Go.Addr.add, ↓reduceIte] at hx136_0); (try simp only [show (3 : Int).toNat = 3 from rfl, Nat.reduceMul, Nat.reduceEqDiff, Go.Addr.add, ↓reduceIte] at hx136_1); have qi136 : (3 < t121.length) = True := eq_true (by omega); (try rw [show ((3 : Int)).toNat = 3 from rfl] at hx136_0); (try rw [show 3 * 2 = 6 from rfl] at hx136_0); (try rw [show ((3 : Int)).toNat = 3 from rfl] at hx136_1); (try rw [show 3 * 2 = 6 from rfl] at hx136_1); replace p136 := eq_true p136; replace q136 := eq_true q136)); try go_wp2_with (first | (go_at_call 30; (with_reducible refine (bridge_Income.calls kj9 (wrap64 (t117 - 100000)) (wrap64 (t118 - 100000)) (wrap64 (t119 - 100000)) t128 t129 _ A20.out).mono ?_); rintro e w41 ⟨rfl, hb⟩; have n0_ := Aside0.mk (Kd.R_below (by (with_reducible repeat (first | apply Kd.R_alloc | apply Kd.R_drewN | apply Kd.R_drew)); exact HO_9.out) hb); have n1_ := Aside0.mk (below_step (by repeat (first | (with_reducible first | exact HB.out | apply below_alloc | apply pw_below_drewN | apply below_drew1) | exact HB.out)) hb); clear HO_9; clear HB; have HO_9 := n0_; have HB := n1_; clear n0_ n1_; (try clear hb); (try clear hb2); (try clear hk); (try clear hi)) | (go_at_call 30; (with_reducible refine (bridge_Income.calls kj9 (wrap64 (t117 - 100000)) (wrap64 ((wrap64 (t118 - 100000)) + t120)) (wrap64 (t119 - 100000)) t130 t131 _ A21.out).mono ?_); rintro e w42 ⟨rfl, hb⟩; have n0_ := Aside0.mk (Kd.R_below (by (with_reducible repeat (first | apply Kd.R_alloc | apply Kd.R_drewN | apply Kd.R_drew)); exact HO_9.out) hb); have n1_ := Aside0.mk (below_step (by repeat (first | (with_reducible first | exact HB.out | apply below_alloc | apply pw_below_drewN | apply below_drew1) | exact HB.out)) hb); clear HO_9; clear HB; have HO_9 := n0_; have HB := n1_; clear n0_ n1_; (try clear hb); (try clear hb2); (try clear hk); (try clear hi)) | (go_at_call 30; (with_reducible refine (bridge_Income.calls kj9 (wrap64 (t117 - 100000)) (wrap64 (t118 - 100000)) (wrap64 ((wrap64 (t119 - 100000)) + t120)) t132 t133 _ A22.out).mono ?_); rintro e w43 ⟨rfl, hb⟩; have n0_ := Aside0.mk (Kd.R_below (by (with_reducible repeat (first | apply Kd.R_alloc | apply Kd.R_drewN | apply Kd.R_drew)); exact HO_9.out) hb); have n1_ := Aside0.mk (below_step (by repeat (first | (with_reducible first | exact HB.out | apply below_alloc | apply pw_below_drewN | apply below_drew1) | exact HB.out)) hb); clear HO_9; clear HB; have HO_9 := n0_; have HB := n1_; clear n0_ n1_; (try clear hb); (try clear hb2); (try clear hk); (try clear hi)) | (go_at_call 30; (with_reducible refine (bridge_Income.calls kj9 (wrap64 (-(wrap64 (t117 - 100000)))) (wrap64 (-(wrap64 (t118 - 100000)))) (wrap64 (-(wrap64 (t119 - 100000)))) t134 t135 _ A23.out).mono ?_); rintro e w44 ⟨rfl, hb⟩; have n0_ := Aside0.mk (Kd.R_below (by (with_reducible repeat (first | apply Kd.R_alloc | apply Kd.R_drewN | apply Kd.R_drew)); exact HO_9.out) hb); have n1_ := Aside0.mk (below_step (by repeat (first | (with_reducible first | exact HB.out | apply below_alloc | apply pw_below_drewN | apply below_drew1) | exact HB.out)) hb); clear HO_9; clear HB; have HO_9 := n0_; have HB := n1_; clear n0_ n1_; (try clear hb); (try clear hb2); (try clear hk); (try clear hi); obtain ⟨Ao45, co45, eo45⟩ := Kd.R_slice HO_9.out; subst eo45; have p136 : 0 ≤ (3 : Int) := (by omega); have q136 : 3 < (t121.length : Int) := of_decide_eq_true (by first | (with_reducible assumption) | assumption); obtain ⟨ad136, e136, hx136_0, hx136_1⟩ := at_T41 (Kd.R_reads' HO_9.out).2.2 3 p136 q136; cases e136; (try simp only [show (3 : Int).toNat = 3 from rfl, Nat.reduceMul, Nat.reduceEqDiff, Go.Addr.add, ↓reduceIte] at hx136_0); (try simp only [show (3 : Int).toNat = 3 from rfl, Nat.reduceMul, Nat.reduceEqDiff, Go.Addr.add, ↓reduceIte] at hx136_1); have qi136 : (3 < t121.length) = True := eq_true (by omega); (try rw [show ((3 : Int)).toNat = 3 from rfl] at hx136_0); (try rw [show 3 * 2 = 6 from rfl] at hx136_0); (try rw [show ((3 : Int)).toNat = 3 from rfl] at hx136_1); (try rw [show 3 * 2 = 6 from rfl] at hx136_1); replace p136 := eq_true p136; replace q136 := eq_true q136)))
                go_ret
                exact ⟨by first | rfl | (simp [errW_none, errW_some] <;> rfl) | (simp [*, errW_none, errW_some] <;> rfl), by repeat (first | (with_reducible first | exact HB.out | apply below_alloc | apply pw_below_drewN | apply below_drew1) | exact HB.out)⟩
            · rw [if_neg c26] at H
              have c26b0 : (t130 == (wrap64 (t128 + t120))) = false := beq_eq_false_iff_ne.mpr c26
              have c26b1 : (t130 != (wrap64 (t128 + t120))) = true := bne_iff_ne.mpr c26
              obtain rfl := Option.some.inj H
              go_wp2_with (first | (go_at_call 30; (with_reducible refine (bridge_Income.calls kj9 (wrap64 (t117 - 100000)) (wrap64 (t118 - 100000)) (wrap64 (t119 - 100000)) t128 t129 _ A20.out).mono ?_); rintro e w46 ⟨rfl, hb⟩; have n0_ := Aside0.mk (Kd.R_below (by (with_reducible repeat (first | apply Kd.R_alloc | apply Kd.R_drewN | apply Kd.R_drew)); exact HO_9.out) hb); have n1_ := Aside0.mk (below_step (by repeat (first | (with_reducible first | exact HB.out | apply below_alloc | apply pw_below_drewN | apply below_drew1) | exact HB.out)) hb); clear HO_9; clear HB; have HO_9 := n0_; have HB := n1_; clear n0_ n1_; (try clear hb); (try clear hb2); (try clear hk); (try clear hi)) | (go_at_call 30; (with_reducible refine (bridge_Income.calls kj9 (wrap64 (t117 - 100000)) (wrap64 ((wrap64 (t118 - 100000)) + t120)) (wrap64 (t119 - 100000)) t130 t131 _ A21.out).mono ?_); rintro e w47 ⟨rfl, hb⟩; have n0_ := Aside0.mk (Kd.R_below (by (with_reducible repeat (first | apply Kd.R_alloc | apply Kd.R_drewN | apply Kd.R_drew)); exact HO_9.out) hb); have n1_ := Aside0.mk (below_step (by repeat (first | (with_reducible first | exact HB.out | apply below_alloc | apply pw_below_drewN | apply below_drew1) | exact HB.out)) hb); clear HO_9; clear HB; have HO_9 := n0_; have HB := n1_; clear n0_ n1_; (try clear hb); (try clear hb2); (try clear hk); (try clear hi)) | (go_at_call 30; (with_reducible refine (bridge_Income.calls kj9 (wrap64 (t117 - 100000)) (wrap64 (t118 - 100000)) (wrap64 ((wrap64 (t119 - 100000)) + t120)) t132 t133 _ A22.out).mono ?_); rintro e w48 ⟨rfl, hb⟩; have n0_ := Aside0.mk (Kd.R_below (by (with_reducible repeat (first | apply Kd.R_alloc | apply Kd.R_drewN | apply Kd.R_drew)); exact HO_9.out) hb); have n1_ := Aside0.mk (below_step (by repeat (first | (with_reducible first | exact HB.out | apply below_alloc | apply pw_below_drewN | apply below_drew1) | exact HB.out)) hb); clear HO_9; clear HB; have HO_9 := n0_; have HB := n1_; clear n0_ n1_; (try clear hb); (try clear hb2); (try clear hk); (try clear hi)) | (go_at_call 30; (with_reducible refine (bridge_Income.calls kj9 (wrap64 (-(wrap64 (t117 - 100000)))) (wrap64 (-(wrap64 (t118 - 100000)))) (wrap64 (-(wrap64 (t119 - 100000)))) t134 t135 _ A23.out).mono ?_); rintro e w49 ⟨rfl, hb⟩; have n0_ := Aside0.mk (Kd.R_below (by (with_reducible repeat (first | apply Kd.R_alloc | apply Kd.R_drewN | apply Kd.R_drew)); exact HO_9.out) hb); have n1_ := Aside0.mk (below_step (by repeat (first | (with_reducible first | exact HB.out | apply below_alloc | apply pw_below_drewN | apply below_drew1) | exact HB.out)) hb); clear HO_9; clear HB; have HO_9 := n0_; have HB := n1_; clear n0_ n1_; (try clear hb); (try clear hb2); (try clear hk); (try clear hi); obtain ⟨Ao50, co50, eo50⟩ := Kd.R_slice HO_9.out; subst eo50; have p136 : 0 ≤ (3 : Int) := (by omega); have q136 : 3 < (t121.length : Int) := of_decide_eq_true (by first | (with_reducible assumption) | assumption); obtain ⟨ad136, e136, hx136_0, hx136_1⟩ := at_T41 (Kd.R_reads' HO_9.out).2.2 3 p136 q136; cases e136; (try simp only [show (3 : Int).toNat = 3 from rfl, Nat.reduceMul, Nat.reduceEqDiff, Go.Addr.add, ↓reduceIte] at hx136_0); (try simp only [show (3 : Int).toNat = 3 from rfl, Nat.reduceMul, Nat.reduceEqDiff, Go.Addr.add, ↓reduceIte] at hx136_1); have qi136 : (3 < t121.length) = True := eq_true (by omega); (try rw [show ((3 : Int)).toNat = 3 from rfl] at hx136_0); (try rw [show 3 * 2 = 6 from rfl] at hx136_0); (try rw [show ((3 : Int)).toNat = 3 from rfl] at hx136_1); (try rw [show 3 * 2 = 6 from rfl] at hx136_1); replace p136 := eq_true p136; replace q136 := eq_true q136))
              repeat (go_quiet (first | (go_at_call 30; (with_reducible refine (bridge_Income.calls kj9 (wrap64 (t117 - 100000)) (wrap64 (t118 - 100000)) (wrap64 (t119 - 100000)) t128 t129 _ A20.out).mono ?_); rintro e w46 ⟨rfl, hb⟩; have n0_ := Aside0.mk (Kd.R_below (by (with_reducible repeat (first | apply Kd.R_alloc | apply Kd.R_drewN | apply Kd.R_drew)); exact HO_9.out) hb); have n1_ := Aside0.mk (below_step (by repeat (first | (with_reducible first | exact HB.out | apply below_alloc | apply pw_below_drewN | apply below_drew1) | exact HB.out)) hb); clear HO_9; clear HB; have HO_9 := n0_; have HB := n1_; clear n0_ n1_; (try clear hb); (try clear hb2); (try clear hk); (try clear hi)) | (go_at_call 30; (with_reducible refine (bridge_Income.calls kj9 (wrap64 (t117 - 100000)) (wrap64 ((wrap64 (t118 - 100000)) + t120)) (wrap64 (t119 - 100000)) t130 t131 _ A21.out).mono ?_); rintro e w47 ⟨rfl, hb⟩; have n0_ := Aside0.mk (Kd.R_below (by (with_reducible repeat (first | apply Kd.R_alloc | apply Kd.R_drewN | apply Kd.R_drew)); exact HO_9.out) hb); have n1_ := Aside0.mk (below_step (by repeat (first | (with_reducible first | exact HB.out | apply below_alloc | apply pw_below_drewN | apply below_drew1) | exact HB.out)) hb); clear HO_9; clear HB; have HO_9 := n0_; have HB := n1_; clear n0_ n1_; (try clear hb); (try clear hb2); (try clear hk); (try clear hi)) | (go_at_call 30; (with_reducible refine (bridge_Income.calls kj9 (wrap64 (t117 - 100000)) (wrap64 (t118 - 100000)) (wrap64 ((wrap64 (t119 - 100000)) + t120)) t132 t133 _ A22.out).mono ?_); rintro e w48 ⟨rfl, hb⟩; have n0_ := Aside0.mk (Kd.R_below (by (with_reducible repeat (first | apply Kd.R_alloc | apply Kd.R_drewN | apply Kd.R_drew)); exact HO_9.out) hb); have n1_ := Aside0.mk (below_step (by repeat (first | (with_reducible first | exact HB.out | apply below_alloc | apply pw_below_drewN | apply below_drew1) | exact HB.out)) hb); clear HO_9; clear HB; have HO_9 := n0_; have HB := n1_; clear n0_ n1_; (try clear hb); (try clear hb2); (try clear hk); (try clear hi)) | (go_at_call 30; (with_reducible refine (bridge_Income.calls kj9 (wrap64 (-(wrap64 (t117 - 100000)))) (wrap64 (-(wrap64 (t118 - 100000)))) (wrap64 (-(wrap64 (t119 - 100000)))) t134 t135 _ A23.out).mono ?_); rintro e w49 ⟨rfl, hb⟩; have n0_ := Aside0.mk (Kd.R_below (by (with_reducible repeat (first | apply Kd.R_alloc | apply Kd.R_drewN | apply Kd.R_drew)); exact HO_9.out) hb); have n1_ := Aside0.mk (below_step (by repeat (first | (with_reducible first | exact HB.out | apply below_alloc | apply pw_below_drewN | apply below_drew1) | exact HB.out)) hb); clear HO_9; clear HB; have HO_9 := n0_; have HB := n1_; clear n0_ n1_; (try clear hb); (try clear hb2); (try clear hk); (try clear hi); obtain ⟨Ao50, co50, eo50⟩ := Kd.R_slice HO_9.out; subst eo50; have p136 : 0 ≤ (3 : Int) := (by omega); have q136 : 3 < (t121.length : Int) := of_decide_eq_true (by first | (with_reducible assumption) | assumption); obtain ⟨ad136, e136, hx136_0, hx136_1⟩ := at_T41 (Kd.R_reads' HO_9.out).2.2 3 p136 q136; cases e136; (try simp only [show (3 : Int).toNat = 3 from rfl, Nat.reduceMul, Nat.reduceEqDiff, Go.Addr.add, ↓reduceIte] at hx136_0); (try simp only [show (3 : Int).toNat = 3 from rfl, Nat.reduceMul, Nat.reduceEqDiff, Go.Addr.add, ↓reduceIte] at hx136_1); have qi136 : (3 < t121.length) = True := eq_true (by omega); (try rw [show ((3 : Int)).toNat = 3 from rfl] at hx136_0); (try rw [show 3 * 2 = 6 from rfl] at hx136_0); (try rw [show ((3 : Int)).toNat = 3 from rfl] at hx136_1); (try rw [show 3 * 2 = 6 from rfl] at hx136_1); replace p136 := eq_true p136; replace q136 := eq_true q136)); try go_wp2_with (first | (go_at_call 30; (with_reducible refine (bridge_Income.calls kj9 (wrap64 (t117 - 100000)) (wrap64 (t118 - 100000)) (wrap64 (t119 - 100000)) t128 t129 _ A20.out).mono ?_); rintro e w46 ⟨rfl, hb⟩; have n0_ := Aside0.mk (Kd.R_below (by (with_reducible repeat (first | apply Kd.R_alloc | apply Kd.R_drewN | apply Kd.R_drew)); exact HO_9.out) hb); have n1_ := Aside0.mk (below_step (by repeat (first | (with_reducible first | exact HB.out | apply below_alloc | apply pw_below_drewN | apply below_drew1) | exact HB.out)) hb); clear HO_9; clear HB; have HO_9 := n0_; have HB := n1_; clear n0_ n1_; (try clear hb); (try clear hb2); (try clear hk); (try clear hi)) | (go_at_call 30; (with_reducible refine (bridge_Income.calls kj9 (wrap64 (t117 - 100000)) (wrap64 ((wrap64 (t118 - 100000)) + t120)) (wrap64 (t119 - 100000)) t130 t131 _ A21.out).mono ?_); rintro e w47 ⟨rfl, hb⟩; have n0_ := Aside0.mk (Kd.R_below (by (with_reducible repeat (first | apply Kd.R_alloc | apply Kd.R_drewN | apply Kd.R_drew)); exact HO_9.out) hb); have n1_ := Aside0.mk (below_step (by repeat (first | (with_reducible first | exact HB.out | apply below_alloc | apply pw_below_drewN | apply below_drew1) | exact HB.out)) hb); clear HO_9; clear HB; have HO_9 := n0_; have HB := n1_; clear n0_ n1_; (try clear hb); (try clear hb2); (try clear hk); (try clear hi)) | (go_at_call 30; (with_reducible refine (bridge_Income.calls kj9 (wrap64 (t117 - 100000)) (wrap64 (t118 - 100000)) (wrap64 ((wrap64 (t119 - 100000)) + t120)) t132 t133 _ A22.out).mono ?_); rintro e w48 ⟨rfl, hb⟩; have n0_ := Aside0.mk (Kd.R_below (by (with_reducible repeat (first | apply Kd.R_alloc | apply Kd.R_drewN | apply Kd.R_drew)); exact HO_9.out) hb); have n1_ := Aside0.mk (below_step (by repeat (first | (with_reducible first | exact HB.out | apply below_alloc | apply pw_below_drewN | apply below_drew1) | exact HB.out)) hb); clear HO_9; clear HB; have HO_9 := n0_; have HB := n1_; clear n0_ n1_; (try clear hb); (try clear hb2); (try clear hk); (try clear hi)) | (go_at_call 30; (with_reducible refine (bridge_Income.calls kj9 (wrap64 (-(wrap64 (t117 - 100000)))) (wrap64 (-(wrap64 (t118 - 100000)))) (wrap64 (-(wrap64 (t119 - 100000)))) t134 t135 _ A23.out).mono ?_); rintro e w49 ⟨rfl, hb⟩; have n0_ := Aside0.mk (Kd.R_below (by (with_reducible repeat (first | apply Kd.R_alloc | apply Kd.R_drewN | apply Kd.R_drew)); exact HO_9.out) hb); have n1_ := Aside0.mk (below_step (by repeat (first | (with_reducible first | exact HB.out | apply below_alloc | apply pw_below_drewN | apply below_drew1) | exact HB.out)) hb); clear HO_9; clear HB; have HO_9 := n0_; have HB := n1_; clear n0_ n1_; (try clear hb); (try clear hb2); (try clear hk); (try clear hi); obtain ⟨Ao50, co50, eo50⟩ := Kd.R_slice HO_9.out; subst eo50; have p136 : 0 ≤ (3 : Int) := (by omega); have q136 : 3 < (t121.length : Int) := of_decide_eq_true (by first | (with_reducible assumption) | assumption); obtain ⟨ad136, e136, hx136_0, hx136_1⟩ := at_T41 (Kd.R_reads' HO_9.out).2.2 3 p136 q136; cases e136; (try simp only [show (3 : Int).toNat = 3 from rfl, Nat.reduceMul, Nat.reduceEqDiff, Go.Addr.add, ↓reduceIte] at hx136_0); (try simp only [show (3 : Int).toNat = 3 from rfl, Nat.reduceMul, Nat.reduceEqDiff, Go.Addr.add, ↓reduceIte] at hx136_1); have qi136 : (3 < t121.length) = True := eq_true (by omega); (try rw [show ((3 : Int)).toNat = 3 from rfl] at hx136_0); (try rw [show 3 * 2 = 6 from rfl] at hx136_0); (try rw [show ((3 : Int)).toNat = 3 from rfl] at hx136_1); (try rw [show 3 * 2 = 6 from rfl] at hx136_1); replace p136 := eq_true p136; replace q136 := eq_true q136)))
              go_ret
              exact ⟨by first | rfl | (simp [errW_none, errW_some] <;> rfl) | (simp [*, errW_none, errW_some] <;> rfl), by repeat (first | (with_reducible first | exact HB.out | apply below_alloc | apply pw_below_drewN | apply below_drew1) | exact HB.out)⟩
          · rw [if_neg c25] at H
            have c25b0 : (t128 == ((rd_T41 t121 3).f1)) = false := beq_eq_false_iff_ne.mpr c25
            have c25b1 : (t128 != ((rd_T41 t121 3).f1)) = true := bne_iff_ne.mpr c25
            obtain rfl := Option.some.inj H
            go_wp2_with (first | (go_at_call 30; (with_reducible refine (bridge_Income.calls kj9 (wrap64 (t117 - 100000)) (wrap64 (t118 - 100000)) (wrap64 (t119 - 100000)) t128 t129 _ A20.out).mono ?_); rintro e w51 ⟨rfl, hb⟩; have n0_ := Aside0.mk (Kd.R_below (by (with_reducible repeat (first | apply Kd.R_alloc | apply Kd.R_drewN | apply Kd.R_drew)); exact HO_9.out) hb); have n1_ := Aside0.mk (below_step (by repeat (first | (with_reducible first | exact HB.out | apply below_alloc | apply pw_below_drewN | apply below_drew1) | exact HB.out)) hb); clear HO_9; clear HB; have HO_9 := n0_; have HB := n1_; clear n0_ n1_; (try clear hb); (try clear hb2); (try clear hk); (try clear hi)) | (go_at_call 30; (with_reducible refine (bridge_Income.calls kj9 (wrap64 (t117 - 100000)) (wrap64 ((wrap64 (t118 - 100000)) + t120)) (wrap64 (t119 - 100000)) t130 t131 _ A21.out).mono ?_); rintro e w52 ⟨rfl, hb⟩; have n0_ := Aside0.mk (Kd.R_below (by (with_reducible repeat (first | apply Kd.R_alloc | apply Kd.R_drewN | apply Kd.R_drew)); exact HO_9.out) hb); have n1_ := Aside0.mk (below_step (by repeat (first | (with_reducible first | exact HB.out | apply below_alloc | apply pw_below_drewN | apply below_drew1) | exact HB.out)) hb); clear HO_9; clear HB; have HO_9 := n0_; have HB := n1_; clear n0_ n1_; (try clear hb); (try clear hb2); (try clear hk); (try clear hi)) | (go_at_call 30; (with_reducible refine (bridge_Income.calls kj9 (wrap64 (t117 - 100000)) (wrap64 (t118 - 100000)) (wrap64 ((wrap64 (t119 - 100000)) + t120)) t132 t133 _ A22.out).mono ?_); rintro e w53 ⟨rfl, hb⟩; have n0_ := Aside0.mk (Kd.R_below (by (with_reducible repeat (first | apply Kd.R_alloc | apply Kd.R_drewN | apply Kd.R_drew)); exact HO_9.out) hb); have n1_ := Aside0.mk (below_step (by repeat (first | (with_reducible first | exact HB.out | apply below_alloc | apply pw_below_drewN | apply below_drew1) | exact HB.out)) hb); clear HO_9; clear HB; have HO_9 := n0_; have HB := n1_; clear n0_ n1_; (try clear hb); (try clear hb2); (try clear hk); (try clear hi)) | (go_at_call 30; (with_reducible refine (bridge_Income.calls kj9 (wrap64 (-(wrap64 (t117 - 100000)))) (wrap64 (-(wrap64 (t118 - 100000)))) (wrap64 (-(wrap64 (t119 - 100000)))) t134 t135 _ A23.out).mono ?_); rintro e w54 ⟨rfl, hb⟩; have n0_ := Aside0.mk (Kd.R_below (by (with_reducible repeat (first | apply Kd.R_alloc | apply Kd.R_drewN | apply Kd.R_drew)); exact HO_9.out) hb); have n1_ := Aside0.mk (below_step (by repeat (first | (with_reducible first | exact HB.out | apply below_alloc | apply pw_below_drewN | apply below_drew1) | exact HB.out)) hb); clear HO_9; clear HB; have HO_9 := n0_; have HB := n1_; clear n0_ n1_; (try clear hb); (try clear hb2); (try clear hk); (try clear hi); obtain ⟨Ao55, co55, eo55⟩ := Kd.R_slice HO_9.out; subst eo55; have p136 : 0 ≤ (3 : Int) := (by omega); have q136 : 3 < (t121.length : Int) := of_decide_eq_true (by first | (with_reducible assumption) | assumption); obtain ⟨ad136, e136, hx136_0, hx136_1⟩ := at_T41 (Kd.R_reads' HO_9.out).2.2 3 p136 q136; cases e136; (try simp only [show (3 : Int).toNat = 3 from rfl, Nat.reduceMul, Nat.reduceEqDiff, Go.Addr.add, ↓reduceIte] at hx136_0); (try simp only [show (3 : Int).toNat = 3 from rfl, Nat.reduceMul, Nat.reduceEqDiff, Go.Addr.add, ↓reduceIte] at hx136_1); have qi136 : (3 < t121.length) = True := eq_true (by omega); (try rw [show ((3 : Int)).toNat = 3 from rfl] at hx136_0); (try rw [show 3 * 2 = 6 from rfl] at hx136_0); (try rw [show ((3 : Int)).toNat = 3 from rfl] at hx136_1); (try rw [show 3 * 2 = 6 from rfl] at hx136_1); replace p136 := eq_true p136; replace q136 := eq_true q136))
            repeat (go_quiet (first | (go_at_call 30; (with_reducible refine (bridge_Income.calls kj9 (wrap64 (t117 - 100000)) (wrap64 (t118 - 100000)) (wrap64 (t119 - 100000)) t128 t129 _ A20.out).mono ?_); rintro e w51 ⟨rfl, hb⟩; have n0_ := Aside0.mk (Kd.R_below (by (with_reducible repeat (first | apply Kd.R_alloc | apply Kd.R_drewN | apply Kd.R_drew)); exact HO_9.out) hb); have n1_ := Aside0.mk (below_step (by repeat (first | (with_reducible first | exact HB.out | apply below_alloc | apply pw_below_drewN | apply below_drew1) | exact HB.out)) hb); clear HO_9; clear HB; have HO_9 := n0_; have HB := n1_; clear n0_ n1_; (try clear hb); (try clear hb2); (try clear hk); (try clear hi)) | (go_at_call 30; (with_reducible refine (bridge_Income.calls kj9 (wrap64 (t117 - 100000)) (wrap64 ((wrap64 (t118 - 100000)) + t120)) (wrap64 (t119 - 100000)) t130 t131 _ A21.out).mono ?_); rintro e w52 ⟨rfl, hb⟩; have n0_ := Aside0.mk (Kd.R_below (by (with_reducible repeat (first | apply Kd.R_alloc | apply Kd.R_drewN | apply Kd.R_drew)); exact HO_9.out) hb); have n1_ := Aside0.mk (below_step (by repeat (first | (with_reducible first | exact HB.out | apply below_alloc | apply pw_below_drewN | apply below_drew1) | exact HB.out)) hb); clear HO_9; clear HB; have HO_9 := n0_; have HB := n1_; clear n0_ n1_; (try clear hb); (try clear hb2); (try clear hk); (try clear hi)) | (go_at_call 30; (with_reducible refine (bridge_Income.calls kj9 (wrap64 (t117 - 100000)) (wrap64 (t118 - 100000)) (wrap64 ((wrap64 (t119 - 100000)) + t120)) t132 t133 _ A22.out).mono ?_); rintro e w53 ⟨rfl, hb⟩; have n0_ := Aside0.mk (Kd.R_below (by (with_reducible repeat (first | apply Kd.R_alloc | apply Kd.R_drewN | apply Kd.R_drew)); exact HO_9.out) hb); have n1_ := Aside0.mk (below_step (by repeat (first | (with_reducible first | exact HB.out | apply below_alloc | apply pw_below_drewN | apply below_drew1) | exact HB.out)) hb); clear HO_9; clear HB; have HO_9 := n0_; have HB := n1_; clear n0_ n1_; (try clear hb); (try clear hb2); (try clear hk); (try clear hi)) | (go_at_call 30; (with_reducible refine (bridge_Income.calls kj9 (wrap64 (-(wrap64 (t117 - 100000)))) (wrap64 (-(wrap64 (t118 - 100000)))) (wrap64 (-(wrap64 (t119 - 100000)))) t134 t135 _ A23.out).mono ?_); rintro e w54 ⟨rfl, hb⟩; have n0_ := Aside0.mk (Kd.R_below (by (with_reducible repeat (first | apply Kd.R_alloc | apply Kd.R_drewN | apply Kd.R_drew)); exact HO_9.out) hb); have n1_ := Aside0.mk (below_step (by repeat (first | (with_reducible first | exact HB.out | apply below_alloc | apply pw_below_drewN | apply below_drew1) | exact HB.out)) hb); clear HO_9; clear HB; have HO_9 := n0_; have HB := n1_; clear n0_ n1_; (try clear hb); (try clear hb2); (try clear hk); (try clear hi); obtain ⟨Ao55, co55, eo55⟩ := Kd.R_slice HO_9.out; subst eo55; have p136 : 0 ≤ (3 : Int) := (by omega); have q136 : 3 < (t121.length : Int) := of_decide_eq_true (by first | (with_reducible assumption) | assumption); obtain ⟨ad136, e136, hx136_0, hx136_1⟩ := at_T41 (Kd.R_reads' HO_9.out).2.2 3 p136 q136; cases e136; (try simp only [show (3 : Int).toNat = 3 from rfl, Nat.reduceMul, Nat.reduceEqDiff, Go.Addr.add, ↓reduceIte] at hx136_0); (try simp only [show (3 : Int).toNat = 3 from rfl, Nat.reduceMul, Nat.reduceEqDiff, Go.Addr.add, ↓reduceIte] at hx136_1); have qi136 : (3 < t121.length) = True := eq_true (by omega); (try rw [show ((3 : Int)).toNat = 3 from rfl] at hx136_0); (try rw [show 3 * 2 = 6 from rfl] at hx136_0); (try rw [show ((3 : Int)).toNat = 3 from rfl] at hx136_1); (try rw [show 3 * 2 = 6 from rfl] at hx136_1); replace p136 := eq_true p136; replace q136 := eq_true q136)); try go_wp2_with (first | (go_at_call 30; (with_reducible refine (bridge_Income.calls kj9 (wrap64 (t117 - 100000)) (wrap64 (t118 - 100000)) (wrap64 (t119 - 100000)) t128 t129 _ A20.out).mono ?_); rintro e w51 ⟨rfl, hb⟩; have n0_ := Aside0.mk (Kd.R_below (by (with_reducible repeat (first | apply Kd.R_alloc | apply Kd.R_drewN | apply Kd.R_drew)); exact HO_9.out) hb); have n1_ := Aside0.mk (below_step (by repeat (first | (with_reducible first | exact HB.out | apply below_alloc | apply pw_below_drewN | apply below_drew1) | exact HB.out)) hb); clear HO_9; clear HB; have HO_9 := n0_; have HB := n1_; clear n0_ n1_; (try clear hb); (try clear hb2); (try clear hk); (try clear hi)) | (go_at_call 30; (with_reducible refine (bridge_Income.calls kj9 (wrap64 (t117 - 100000)) (wrap64 ((wrap64 (t118 - 100000)) + t120)) (wrap64 (t119 - 100000)) t130 t131 _ A21.out).mono ?_); rintro e w52 ⟨rfl, hb⟩; have n0_ := Aside0.mk (Kd.R_below (by (with_reducible repeat (first | apply Kd.R_alloc | apply Kd.R_drewN | apply Kd.R_drew)); exact HO_9.out) hb); have n1_ := Aside0.mk (below_step (by repeat (first | (with_reducible first | exact HB.out | apply below_alloc | apply pw_below_drewN | apply below_drew1) | exact HB.out)) hb); clear HO_9; clear HB; have HO_9 := n0_; have HB := n1_; clear n0_ n1_; (try clear hb); (try clear hb2); (try clear hk); (try clear hi)) | (go_at_call 30; (with_reducible refine (bridge_Income.calls kj9 (wrap64 (t117 - 100000)) (wrap64 (t118 - 100000)) (wrap64 ((wrap64 (t119 - 100000)) + t120)) t132 t133 _ A22.out).mono ?_); rintro e w53 ⟨rfl, hb⟩; have n0_ := Aside0.mk (Kd.R_below (by (with_reducible repeat (first | apply Kd.R_alloc | apply Kd.R_drewN | apply Kd.R_drew)); exact HO_9.out) hb); have n1_ := Aside0.mk (below_step (by repeat (first | (with_reducible first | exact HB.out | apply below_alloc | apply pw_below_drewN | apply below_drew1) | exact HB.out)) hb); clear HO_9; clear HB; have HO_9 := n0_; have HB := n1_; clear n0_ n1_; (try clear hb); (try clear hb2); (try clear hk); (try clear hi)) | (go_at_call 30; (with_reducible refine (bridge_Income.calls kj9 (wrap64 (-(wrap64 (t117 - 100000)))) (wrap64 (-(wrap64 (t118 - 100000)))) (wrap64 (-(wrap64 (t119 - 100000)))) t134 t135 _ A23.out).mono ?_); rintro e w54 ⟨rfl, hb⟩; have n0_ := Aside0.mk (Kd.R_below (by (with_reducible repeat (first | apply Kd.R_alloc | apply Kd.R_drewN | apply Kd.R_drew)); exact HO_9.out) hb); have n1_ := Aside0.mk (below_step (by repeat (first | (with_reducible first | exact HB.out | apply below_alloc | apply pw_below_drewN | apply below_drew1) | exact HB.out)) hb); clear HO_9; clear HB; have HO_9 := n0_; have HB := n1_; clear n0_ n1_; (try clear hb); (try clear hb2); (try clear hk); (try clear hi); obtain ⟨Ao55, co55, eo55⟩ := Kd.R_slice HO_9.out; subst eo55; have p136 : 0 ≤ (3 : Int) := (by omega); have q136 : 3 < (t121.length : Int) := of_decide_eq_true (by first | (with_reducible assumption) | assumption); obtain ⟨ad136, e136, hx136_0, hx136_1⟩ := at_T41 (Kd.R_reads' HO_9.out).2.2 3 p136 q136; cases e136; (try simp only [show (3 : Int).toNat = 3 from rfl, Nat.reduceMul, Nat.reduceEqDiff, Go.Addr.add, ↓reduceIte] at hx136_0); (try simp only [show (3 : Int).toNat = 3 from rfl, Nat.reduceMul, Nat.reduceEqDiff, Go.Addr.add, ↓reduceIte] at hx136_1); have qi136 : (3 < t121.length) = True := eq_true (by omega); (try rw [show ((3 : Int)).toNat = 3 from rfl] at hx136_0); (try rw [show 3 * 2 = 6 from rfl] at hx136_0); (try rw [show ((3 : Int)).toNat = 3 from rfl] at hx136_1); (try rw [show 3 * 2 = 6 from rfl] at hx136_1); replace p136 := eq_true p136; replace q136 := eq_true q136)))
            go_ret
            exact ⟨by first | rfl | (simp [errW_none, errW_some] <;> rfl) | (simp [*, errW_none, errW_some] <;> rfl), by repeat (first | (with_reducible first | exact HB.out | apply below_alloc | apply pw_below_drewN | apply below_drew1) | exact HB.out)⟩
        · rw [if_neg c24] at H
          exact absurd H (by simp)

/-- THE ONE PURE STATEMENT of scutagelaw12_BridgeSums: yours. -/
def scutagelaw12_BridgeSums.Pure : Prop := ∀ (a0 : Int) (a1 : Int) (a2 : Int) (a3 : Int), (Lit.int .i64 a0).wf = true → (Lit.int .i64 a1).wf = true → (Lit.int .i64 a2).wf = true → (Lit.int .i64 a3).wf = true → ∃ k, scutagelaw12_BridgeSums.f k a0 a1 a2 a3 = some true
theorem scutagelaw12_BridgeSums.walk (P : scutagelaw12_BridgeSums.Pure) (a0 : Int) (a1 : Int) (a2 : Int) (a3 : Int) (w : World) (w0 : (Lit.int .i64 a0).wf = true) (w1 : (Lit.int .i64 a1).wf = true) (w2 : (Lit.int .i64 a2).wf = true) (w3 : (Lit.int .i64 a3).wf = true) :
    Calls Try.prog 11 #[.int .i64 a0, .int .i64 a1, .int .i64 a2, .int .i64 a3] w fun e w' => e = .returned (.bool true) ∧ Below w.heap.size w w' := by
  obtain ⟨k, h⟩ := P a0 a1 a2 a3 w0 w1 w2 w3
  refine (scutagelaw12_BridgeSums.calls k a0 a1 a2 a3 true w h).mono ?_
  rintro e w' ⟨rfl, hd⟩
  exact ⟨rfl, hd⟩

end Go.Proofs.Ytalelfjjigfpeaa.PBridgeSums
