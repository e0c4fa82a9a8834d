-- PRINTED BY print.sh 35421559b90ae4d0a3588c463048766b98c2df88dd9212a6774a882060cdf62d: not written by this session
import Derived.Test.YtalelfjjigfpeaaPRateRoundsx0
namespace Go.Proofs.Ytalelfjjigfpeaa.PRateRounds
open Go.RowKit Go.Proofs.YtalelfjjigfpeaaW.PrintWords Go.Proofs.YtalelfjjigfpeaaW.PrintLast Go.Proofs.YtalelfjjigfpeaaW.PrintMore
attribute [local go_sem] max2_int min2_int max_two min_two max_three min_three max_four min_four   -- for this text's walks alone
set_option linter.unusedVariables false
set_option linter.unusedSimpArgs false

/-! ### scutagekeep_Within: function 13 -/
def scutagekeep_Within.f (a0 : Int) (a1 : Int) : Option (Int) := if a1 < 1 then (some 0) else (if a1 = 0 then (none) else (if (Int.tmod a0 a1) < 0 then (some (wrap64 ((Int.tmod a0 a1) + a1))) else (some (Int.tmod a0 a1))))
set_option maxHeartbeats 8000000 in
set_option maxRecDepth 100000 in
theorem scutagekeep_Within.calls (a0 : Int) (a1 : Int) (r : Int) (w : World) (h : scutagekeep_Within.f a0 a1 = some r) :
    Calls Try.prog 13 #[.int .i64 a0, .int .i64 a1] w fun e w' => e = .returned (.int .i64 r) ∧ Drawn0 w w' := by
  have H : (if a1 < 1 then (some 0) else (if a1 = 0 then (none) else (if (Int.tmod a0 a1) < 0 then (some (wrap64 ((Int.tmod a0 a1) + a1))) else (some (Int.tmod a0 a1))))) = some r := h
  clear h
  by_cases c3 : a1 < 1
  · rw [if_pos c3] at H
    have c3b0 : decide (a1 < 1) = true := decide_eq_true c3
    clear c3
    obtain rfl := Option.some.inj H
    go_enter Try.func13, Try.ntmps13
    go_wp2
    go_ret
    exact ⟨by first | rfl | (simp; done) | (simp [*]; done), by repeat (first | exact Drawn0.refl _ | apply Drawn0.step)⟩
  · rw [if_neg c3] at H
    have c3b0 : decide (a1 < 1) = false := decide_eq_false c3
    clear c3
    by_cases c4 : a1 = 0
    · rw [if_pos c4] at H
      exact absurd H (by simp)
    · rw [if_neg c4] at H
      have c4b0 : (a1 == 0) = false := beq_eq_false_iff_ne.mpr c4
      have c4b1 : (a1 != 0) = true := bne_iff_ne.mpr c4
      by_cases c5 : (Int.tmod a0 a1) < 0
      · rw [if_pos c5] at H
        have c5b0 : decide ((Int.tmod a0 a1) < 0) = true := decide_eq_true c5
        clear c5
        obtain rfl := Option.some.inj H
        go_enter Try.func13, Try.ntmps13
        go_wp2
        go_ret
        exact ⟨by first | rfl | (simp; done) | (simp [*]; done), by repeat (first | exact Drawn0.refl _ | apply Drawn0.step)⟩
      · rw [if_neg c5] at H
        have c5b0 : decide ((Int.tmod a0 a1) < 0) = false := decide_eq_false c5
        clear c5
        obtain rfl := Option.some.inj H
        go_enter Try.func13, Try.ntmps13
        go_wp2
        go_ret
        exact ⟨by first | rfl | (simp; done) | (simp [*]; done), by repeat (first | exact Drawn0.refl _ | apply Drawn0.step)⟩

/-! ### rate_Of: function 14 -/
def rate_Of.j0 : Nat → Int → Int → Bool → Option (Int × Bool)
  | 0, _, _, _ => none
  | k + 1, x0, x1, x20 => if x20 = true then (some (0, false)) else (if x0 < 0 then (some (wrap64 (Int.tdiv (wrap64 ((wrap64 ((wrap64 (2 * x0)) * x1)) - 1000000)) 2000000), true)) else (some (wrap64 (Int.tdiv (wrap64 ((wrap64 ((wrap64 (2 * x0)) * x1)) + 1000000)) 2000000), true)))
def rate_Of.f (k : Nat) (a0 : Int) (a1 : Int) : Option (Int × Bool) := if a0 < (-400000000000) then (rate_Of.j0 k a0 a1 true) else (if a0 > 400000000000 then (rate_Of.j0 k a0 a1 true) else (if a1 < 0 then (rate_Of.j0 k a0 a1 true) else (rate_Of.j0 k a0 a1 (decide (a1 > 10000000)))))
theorem rate_Of.mono_l : ∀ k, (∀ y0 y1 y2, LeO (rate_Of.j0 k y0 y1 y2) (rate_Of.j0 (k + 1) y0 y1 y2))
  | 0 => fun _ _ _ r h => by simp [rate_Of.j0] at h
  | k + 1 => by
    have ih0 := rate_Of.mono_l k
    · intro y0 y1 y2
      unfold rate_Of.j0
      repeat' first
      | (with_reducible exact ih0 _ _ _)
      | (with_reducible exact LeO.refl _)
      | (with_reducible exact LeO.none _)
      | (with_reducible refine LeO.ite ?_ ?_)
      | (with_reducible refine LeO.bind ?_ (fun _ => ?_))
      | exact ih0 _ _ _
      | exact LeO.none _
      | refine LeO.ite ?_ ?_
      | refine LeO.bind ?_ (fun _ => ?_)
theorem rate_Of.mono : ∀ a0 a1 k, LeO (rate_Of.f k a0 a1) (rate_Of.f (k + 1) a0 a1) := by
  intro a0 a1 k
  have ih0 := rate_Of.mono_l k
  unfold rate_Of.f
  repeat' first
      | (with_reducible exact ih0 _ _ _)
      | (with_reducible exact LeO.refl _)
      | (with_reducible exact LeO.none _)
      | (with_reducible refine LeO.ite ?_ ?_)
      | (with_reducible refine LeO.bind ?_ (fun _ => ?_))
      | exact ih0 _ _ _
      | exact LeO.none _
      | refine LeO.ite ?_ ?_
      | refine LeO.bind ?_ (fun _ => ?_)
set_option maxHeartbeats 8000000 in
set_option maxRecDepth 100000 in
theorem rate_Of.calls (k : Nat) (a0 : Int) (a1 : Int) (r1 : Int) (r2 : Bool) (w : World) (h : rate_Of.f k a0 a1 = some (r1, r2)) :
    Calls Try.prog 14 #[.int .i64 a0, .int .i64 a1] w fun e w' => e = .returned (.tuple #[.int .i64 r1, .bool r2]) ∧ Drawn0 w w' := by
  have H : (if a0 < (-400000000000) then (rate_Of.j0 k a0 a1 true) else (if a0 > 400000000000 then (rate_Of.j0 k a0 a1 true) else (if a1 < 0 then (rate_Of.j0 k a0 a1 true) else (rate_Of.j0 k a0 a1 (decide (a1 > 10000000)))))) = some (r1, r2) := h
  clear h
  have HC3 := Aside0.mk H
  clear H
  go_enter Try.func14, Try.ntmps14
  go_upto_region 1 with (fail)
  go_cut [20] (fun v20 wc => ∃ (kq : Nat) (x20_2 : Bool), v20 = .bool x20_2 ∧ Aside0 (rate_Of.j0 kq a0 a1 x20_2 = some (r1, r2)) ∧ Aside0 (kq ≤ k) ∧ Drawn0 w wc)
  case first =>
    have H := HC3.out
    clear HC3
    by_cases c4 : a0 < (-400000000000)
    · rw [if_pos c4] at H
      have c4b0 : decide (a0 < (-400000000000)) = true := decide_eq_true c4
      clear c4
      (first | rw [c4b0] | (simp only [i64_w, i32_w]; rw [c4b0]) | skip)
      have H' := Aside0.mk H
      clear H
      go_wp2
      go_meet
      case rel => exact ⟨_, (true), (by first | rfl | (simp; done) | (simp [*]; done)), H', ⟨by first | omega | exact Nat.le_refl _⟩, by repeat (first | exact Drawn0.refl _ | apply Drawn0.step)⟩
    · rw [if_neg c4] at H
      have c4b0 : decide (a0 < (-400000000000)) = false := decide_eq_false c4
      clear c4
      (first | rw [c4b0] | (simp only [i64_w, i32_w]; rw [c4b0]) | skip)
      by_cases c5 : a0 > 400000000000
      · rw [if_pos c5] at H
        have c5b0 : decide (400000000000 < a0) = true := decide_eq_true c5
        clear c5
        have H' := Aside0.mk H
        clear H
        go_wp2
        go_meet
        case rel => exact ⟨_, (true), (by first | rfl | (simp; done) | (simp [*]; done)), H', ⟨by first | omega | exact Nat.le_refl _⟩, by repeat (first | exact Drawn0.refl _ | apply Drawn0.step)⟩
      · rw [if_neg c5] at H
        have c5b0 : decide (400000000000 < a0) = false := decide_eq_false c5
        clear c5
        by_cases c6 : a1 < 0
        · rw [if_pos c6] at H
          have c6b0 : decide (a1 < 0) = true := decide_eq_true c6
          clear c6
          have H' := Aside0.mk H
          clear H
          go_wp2
          go_meet
          case rel => exact ⟨_, (true), (by first | rfl | (simp; done) | (simp [*]; done)), H', ⟨by first | omega | exact Nat.le_refl _⟩, by repeat (first | exact Drawn0.refl _ | apply Drawn0.step)⟩
        · rw [if_neg c6] at H
          have c6b0 : decide (a1 < 0) = false := decide_eq_false c6
          clear c6
          have H' := Aside0.mk H
          clear H
          go_wp2
          go_meet
          case rel => exact ⟨_, (decide (a1 > 10000000)), (by first | rfl | (simp; done) | (simp [*]; done)), H', ⟨by first | omega | exact Nat.le_refl _⟩, by repeat (first | exact Drawn0.refl _ | apply Drawn0.step)⟩
  case rest =>
    clear HC3
    try clear c1
    try clear p2
    try clear c4
    try clear c4b0
    try clear c5
    try clear c5b0
    try clear c6
    try clear c6b0
    obtain ⟨kq, x20_2, rfl, HA, HJ2, ⟨mc2, rfl⟩⟩ := hcut
    cases kq with
    | zero => exact absurd HA.out (by simp [rate_Of.j0])
    | succ kj2 =>
      have H := HA.out
      clear HA
      simp only [rate_Of.j0] at H
      by_cases c7 : x20_2 = true
      · subst c7
        have H1 : (some (0, false)) = some (r1, r2) := by rw [if_pos rfl] at H; exact H
        clear H
        have H := H1
        clear H1
        simp only [Option.some.injEq, Prod.mk.injEq] at H
        obtain ⟨rfl, rfl⟩ := H
        go_wp2
        go_ret2
        exact ⟨by first | rfl | (simp; done) | (simp [*]; done), by repeat (first | exact Drawn0.refl _ | apply Drawn0.step)⟩
      · replace c7 := Bool.eq_false_iff.mpr c7
        subst c7
        have H1 : (if a0 < 0 then (some (wrap64 (Int.tdiv (wrap64 ((wrap64 ((wrap64 (2 * a0)) * a1)) - 1000000)) 2000000), true)) else (some (wrap64 (Int.tdiv (wrap64 ((wrap64 ((wrap64 (2 * a0)) * a1)) + 1000000)) 2000000), true))) = some (r1, r2) := by rw [if_neg (show ¬ (false = true) by decide)] at H; exact H
        clear H
        have H := H1
        clear H1
        by_cases c8 : a0 < 0
        · rw [if_pos c8] at H
          have c8b0 : decide (a0 < 0) = true := decide_eq_true c8
          clear c8
          simp only [Option.some.injEq, Prod.mk.injEq] at H
          obtain ⟨rfl, rfl⟩ := H
          go_wp2
          go_ret2
          exact ⟨by first | rfl | (simp; done) | (simp [*]; done), by repeat (first | exact Drawn0.refl _ | apply Drawn0.step)⟩
        · rw [if_neg c8] at H
          have c8b0 : decide (a0 < 0) = false := decide_eq_false c8
          clear c8
          simp only [Option.some.injEq, Prod.mk.injEq] at H
          obtain ⟨rfl, rfl⟩ := H
          go_wp2
          go_ret2
          exact ⟨by first | rfl | (simp; done) | (simp [*]; done), by repeat (first | exact Drawn0.refl _ | apply Drawn0.step)⟩

/-! ### scutagelaw01_wakes: function 15 -/
def scutagelaw01_wakes.f (k : Nat)  : Option (Bool) := (rate_Of.f k 5 300000).bind fun bt101 => ((rate_Of.f k (-5) 300000).bind fun bt103 => (if bt101.2 = true then (if bt103.2 = true then (if bt101.1 = 2 then (some (bt103.1 == (-2))) else (some false)) else (some false)) else (some false)))
theorem scutagelaw01_wakes.mono : ∀ k, LeO (scutagelaw01_wakes.f k ) (scutagelaw01_wakes.f (k + 1) ) := by
  intro  k
  unfold scutagelaw01_wakes.f
  repeat' first
      | (with_reducible exact rate_Of.mono _ _ _)
      | (with_reducible exact LeO.refl _)
      | (with_reducible exact LeO.none _)
      | (with_reducible refine LeO.ite ?_ ?_)
      | (with_reducible refine LeO.bind ?_ (fun _ => ?_))
      | exact rate_Of.mono _ _ _
      | exact LeO.none _
      | refine LeO.ite ?_ ?_
      | refine LeO.bind ?_ (fun _ => ?_)
set_option maxHeartbeats 8000000 in
set_option maxRecDepth 100000 in
theorem scutagelaw01_wakes.calls (k : Nat)  (r : Bool) (w : World) (h : scutagelaw01_wakes.f k  = some r) :
    Calls Try.prog 15 #[] w fun e w' => e = .returned (.bool r) ∧ Drawn0 w w' := by
  have H : ((rate_Of.f k 5 300000).bind fun bt101 => ((rate_Of.f k (-5) 300000).bind fun bt103 => (if bt101.2 = true then (if bt103.2 = true then (if bt101.1 = 2 then (some (bt103.1 == (-2))) else (some false)) else (some false)) else (some false)))) = some r := h
  clear h
  replace H := Option.bind_eq_some_iff.mp H
  obtain ⟨⟨t101, t102⟩, A10, H⟩ := H
  replace H : ((rate_Of.f k (-5) 300000).bind fun bt103 => (if t102 = true then (if bt103.2 = true then (if t101 = 2 then (some (bt103.1 == (-2))) else (some false)) else (some false)) else (some false))) = some r := H
  have A1 := Aside0.mk A10
  clear A10
  replace H := Option.bind_eq_some_iff.mp H
  obtain ⟨⟨t103, t104⟩, A20, H⟩ := H
  replace H : (if t102 = true then (if t104 = true then (if t101 = 2 then (some (t103 == (-2))) else (some false)) else (some false)) else (some false)) = some r := H
  have A2 := Aside0.mk A20
  clear A20
  by_cases c3 : t102 = true
  · subst c3
    have H1 : (if t104 = true then (if t101 = 2 then (some (t103 == (-2))) else (some false)) else (some false)) = some r := by rw [if_pos rfl] at H; exact H
    clear H
    have H := H1
    clear H1
    by_cases c4 : t104 = true
    · subst c4
      have H1 : (if t101 = 2 then (some (t103 == (-2))) else (some false)) = some r := by rw [if_pos rfl] at H; exact H
      clear H
      have H := H1
      clear H1
      by_cases c5 : t101 = 2
      · rw [if_pos c5] at H
        have c5b0 : (t101 == 2) = true := beq_iff_eq.mpr c5
        have c5b1 : (t101 != 2) = false := bne_eq_false_iff_eq.mpr c5
        clear c5
        obtain rfl := Option.some.inj H
        go_enter Try.func15, Try.ntmps15
        go_wp2_with (first | ((with_reducible refine gate_callee (f := 14) rfl ?_); refine goesL_ (some 6) rfl rfl Try.func14 (by kernel_rfl) rfl #[.int .i64 5, .int .i64 300000] rfl (by (try simp only [List.map_toArray, List.map_cons, List.map_nil]); first | done | rfl | (simp only [List.length_drop, List.length_take]; rfl)) ?_; (with_reducible refine (rate_Of.calls k 5 300000 t101 true _ A1.out).mono ?_); rintro e w' ⟨rfl, ⟨nd, rfl⟩⟩; refine ⟨_, rfl, ?_⟩) | ((with_reducible refine gate_callee (f := 14) rfl ?_); refine goesL_ (some 10) rfl rfl Try.func14 (by kernel_rfl) rfl #[.int .i64 (-5), .int .i64 300000] rfl (by (try simp only [List.map_toArray, List.map_cons, List.map_nil]); first | done | rfl | (simp only [List.length_drop, List.length_take]; rfl)) ?_; (with_reducible refine (rate_Of.calls k (-5) 300000 t103 true _ A2.out).mono ?_); rintro e w' ⟨rfl, ⟨nd, rfl⟩⟩; refine ⟨_, rfl, ?_⟩))
        go_ret
        exact ⟨by first | rfl | (simp; done) | (simp [*]; done), by repeat (first | exact Drawn0.refl _ | apply Drawn0.step)⟩
      · rw [if_neg c5] at H
        have c5b0 : (t101 == 2) = false := beq_eq_false_iff_ne.mpr c5
        have c5b1 : (t101 != 2) = true := bne_iff_ne.mpr c5
        obtain rfl := Option.some.inj H
        go_enter Try.func15, Try.ntmps15
        go_wp2_with (first | ((with_reducible refine gate_callee (f := 14) rfl ?_); refine goesL_ (some 6) rfl rfl Try.func14 (by kernel_rfl) rfl #[.int .i64 5, .int .i64 300000] rfl (by (try simp only [List.map_toArray, List.map_cons, List.map_nil]); first | done | rfl | (simp only [List.length_drop, List.length_take]; rfl)) ?_; (with_reducible refine (rate_Of.calls k 5 300000 t101 true _ A1.out).mono ?_); rintro e w' ⟨rfl, ⟨nd, rfl⟩⟩; refine ⟨_, rfl, ?_⟩) | ((with_reducible refine gate_callee (f := 14) rfl ?_); refine goesL_ (some 10) rfl rfl Try.func14 (by kernel_rfl) rfl #[.int .i64 (-5), .int .i64 300000] rfl (by (try simp only [List.map_toArray, List.map_cons, List.map_nil]); first | done | rfl | (simp only [List.length_drop, List.length_take]; rfl)) ?_; (with_reducible refine (rate_Of.calls k (-5) 300000 t103 true _ A2.out).mono ?_); rintro e w' ⟨rfl, ⟨nd, rfl⟩⟩; refine ⟨_, rfl, ?_⟩))
        go_ret
        exact ⟨by first | rfl | (simp; done) | (simp [*]; done), by repeat (first | exact Drawn0.refl _ | apply Drawn0.step)⟩
    · replace c4 := Bool.eq_false_iff.mpr c4
      subst c4
      have H1 : (some false) = some r := by rw [if_neg (show ¬ (false = true) by decide)] at H; exact H
      clear H
      have H := H1
      clear H1
      obtain rfl := Option.some.inj H
      go_enter Try.func15, Try.ntmps15
      go_wp2_with (first | ((with_reducible refine gate_callee (f := 14) rfl ?_); refine goesL_ (some 6) rfl rfl Try.func14 (by kernel_rfl) rfl #[.int .i64 5, .int .i64 300000] rfl (by (try simp only [List.map_toArray, List.map_cons, List.map_nil]); first | done | rfl | (simp only [List.length_drop, List.length_take]; rfl)) ?_; (with_reducible refine (rate_Of.calls k 5 300000 t101 true _ A1.out).mono ?_); rintro e w' ⟨rfl, ⟨nd, rfl⟩⟩; refine ⟨_, rfl, ?_⟩) | ((with_reducible refine gate_callee (f := 14) rfl ?_); refine goesL_ (some 10) rfl rfl Try.func14 (by kernel_rfl) rfl #[.int .i64 (-5), .int .i64 300000] rfl (by (try simp only [List.map_toArray, List.map_cons, List.map_nil]); first | done | rfl | (simp only [List.length_drop, List.length_take]; rfl)) ?_; (with_reducible refine (rate_Of.calls k (-5) 300000 t103 false _ A2.out).mono ?_); rintro e w' ⟨rfl, ⟨nd, rfl⟩⟩; refine ⟨_, rfl, ?_⟩))
      go_ret
      exact ⟨by first | rfl | (simp; done) | (simp [*]; done), by repeat (first | exact Drawn0.refl _ | apply Drawn0.step)⟩
  · replace c3 := Bool.eq_false_iff.mpr c3
    subst c3
    have H1 : (some false) = some r := by rw [if_neg (show ¬ (false = true) by decide)] at H; exact H
    clear H
    have H := H1
    clear H1
    obtain rfl := Option.some.inj H
    go_enter Try.func15, Try.ntmps15
    go_wp2_with (first | ((with_reducible refine gate_callee (f := 14) rfl ?_); refine goesL_ (some 6) rfl rfl Try.func14 (by kernel_rfl) rfl #[.int .i64 5, .int .i64 300000] rfl (by (try simp only [List.map_toArray, List.map_cons, List.map_nil]); first | done | rfl | (simp only [List.length_drop, List.length_take]; rfl)) ?_; (with_reducible refine (rate_Of.calls k 5 300000 t101 false _ A1.out).mono ?_); rintro e w' ⟨rfl, ⟨nd, rfl⟩⟩; refine ⟨_, rfl, ?_⟩) | ((with_reducible refine gate_callee (f := 14) rfl ?_); refine goesL_ (some 10) rfl rfl Try.func14 (by kernel_rfl) rfl #[.int .i64 (-5), .int .i64 300000] rfl (by (try simp only [List.map_toArray, List.map_cons, List.map_nil]); first | done | rfl | (simp only [List.length_drop, List.length_take]; rfl)) ?_; (with_reducible refine (rate_Of.calls k (-5) 300000 t103 t104 _ A2.out).mono ?_); rintro e w' ⟨rfl, ⟨nd, rfl⟩⟩; refine ⟨_, rfl, ?_⟩))
    go_ret
    exact ⟨by first | rfl | (simp; done) | (simp [*]; done), by repeat (first | exact Drawn0.refl _ | apply Drawn0.step)⟩

/-! ### scutagelaw01_RateRounds: function 4 -/
mutual
def scutagelaw01_RateRounds.j0 : Nat → Int → Int → Int → Bool → Option (Bool)
  | 0, _, _, _, _ => none
  | k + 1, x0, x1, x5, x43 => if x43 = true then (some false) else (if (wrap64 ((wrap64 (x0 * x1)) - (wrap64 (x5 * 1000000)))) < (-500000) then (scutagelaw01_RateRounds.j1 k x0 (wrap64 ((wrap64 (x0 * x1)) - (wrap64 (x5 * 1000000)))) true) else (scutagelaw01_RateRounds.j1 k x0 (wrap64 ((wrap64 (x0 * x1)) - (wrap64 (x5 * 1000000)))) (decide ((wrap64 ((wrap64 (x0 * x1)) - (wrap64 (x5 * 1000000)))) > 500000))))
def scutagelaw01_RateRounds.j1 : Nat → Int → Int → Bool → Option (Bool)
  | 0, _, _, _ => none
  | k + 1, x0, x9, x55 => if x55 = true then (some false) else (if x9 = 500000 then (if x0 > 0 then (scutagelaw01_RateRounds.j2 k x0 true) else (if x9 = (-500000) then (scutagelaw01_RateRounds.j2 k x0 (decide (x0 < 0))) else (scutagelaw01_RateRounds.j2 k x0 false))) else (if x9 = (-500000) then (scutagelaw01_RateRounds.j2 k x0 (decide (x0 < 0))) else (scutagelaw01_RateRounds.j2 k x0 false)))
def scutagelaw01_RateRounds.j2 : Nat → Int → Bool → Option (Bool)
  | 0, _, _ => none
  | k + 1, x0, x69 => if x69 = true then (some false) else ((rate_Of.f k x0 1000000).bind fun bt111 => ((rate_Of.f k x0 0).bind fun bt113 => (if bt111.1 = x0 then (if bt113.1 = 0 then ((scutagelaw01_wakes.f k).bind fun t115 => (some t115)) else (some false)) else (some false))))
end
def scutagelaw01_RateRounds.f (k : Nat) (a0 : Int) (a1 : Int) : Option (Bool) := (scutagekeep_Within.f a0 800000000001).bind fun t105 => ((scutagekeep_Within.f a1 10000001).bind fun t106 => ((rate_Of.f k (wrap64 (t105 - 400000000000)) t106).bind fun bt107 => ((rate_Of.f k (wrap64 (-(wrap64 (t105 - 400000000000)))) t106).bind fun bt109 => (if bt107.2 = true then (if bt109.2 = true then (scutagelaw01_RateRounds.j0 k (wrap64 (t105 - 400000000000)) t106 bt107.1 (bt107.1 != (wrap64 (-bt109.1)))) else (scutagelaw01_RateRounds.j0 k (wrap64 (t105 - 400000000000)) t106 bt107.1 true)) else (scutagelaw01_RateRounds.j0 k (wrap64 (t105 - 400000000000)) t106 bt107.1 true)))))
theorem scutagelaw01_RateRounds.mono_l : ∀ k, (∀ y0 y1 y2 y3, LeO (scutagelaw01_RateRounds.j0 k y0 y1 y2 y3) (scutagelaw01_RateRounds.j0 (k + 1) y0 y1 y2 y3)) ∧ (∀ y0 y1 y2, LeO (scutagelaw01_RateRounds.j1 k y0 y1 y2) (scutagelaw01_RateRounds.j1 (k + 1) y0 y1 y2)) ∧ (∀ y0 y1, LeO (scutagelaw01_RateRounds.j2 k y0 y1) (scutagelaw01_RateRounds.j2 (k + 1) y0 y1))
  | 0 => ⟨fun _ _ _ _ r h => by simp [scutagelaw01_RateRounds.j0] at h, fun _ _ _ r h => by simp [scutagelaw01_RateRounds.j1] at h, fun _ _ r h => by simp [scutagelaw01_RateRounds.j2] at h⟩
  | k + 1 => by
    obtain ⟨ih0, ih1, ih2⟩ := scutagelaw01_RateRounds.mono_l k
    refine ⟨?_, ?_, ?_⟩
    · intro y0 y1 y2 y3
      unfold scutagelaw01_RateRounds.j0
      repeat' first
      | (with_reducible exact ih0 _ _ _ _)
      | (with_reducible exact ih1 _ _ _)
      | (with_reducible exact ih2 _ _)
      | (with_reducible exact rate_Of.mono _ _ _)
      | (with_reducible exact scutagelaw01_wakes.mono _)
      | (with_reducible exact LeO.refl _)
      | (with_reducible exact LeO.none _)
      | (with_reducible refine LeO.ite ?_ ?_)
      | (with_reducible refine LeO.bind ?_ (fun _ => ?_))
      | exact ih0 _ _ _ _
      | exact ih1 _ _ _
      | exact ih2 _ _
      | exact rate_Of.mono _ _ _
      | exact scutagelaw01_wakes.mono _
      | exact LeO.none _
      | refine LeO.ite ?_ ?_
      | refine LeO.bind ?_ (fun _ => ?_)
    · intro y0 y1 y2
      unfold scutagelaw01_RateRounds.j1
      repeat' first
      | (with_reducible exact ih0 _ _ _ _)
      | (with_reducible exact ih1 _ _ _)
      | (with_reducible exact ih2 _ _)
      | (with_reducible exact rate_Of.mono _ _ _)
      | (with_reducible exact scutagelaw01_wakes.mono _)
      | (with_reducible exact LeO.refl _)
      | (with_reducible exact LeO.none _)
      | (with_reducible refine LeO.ite ?_ ?_)
      | (with_reducible refine LeO.bind ?_ (fun _ => ?_))
      | exact ih0 _ _ _ _
      | exact ih1 _ _ _
      | exact ih2 _ _
      | exact rate_Of.mono _ _ _
      | exact scutagelaw01_wakes.mono _
      | exact LeO.none _
      | refine LeO.ite ?_ ?_
      | refine LeO.bind ?_ (fun _ => ?_)
    · intro y0 y1
      unfold scutagelaw01_RateRounds.j2
      repeat' first
      | (with_reducible exact ih0 _ _ _ _)
      | (with_reducible exact ih1 _ _ _)
      | (with_reducible exact ih2 _ _)
      | (with_reducible exact rate_Of.mono _ _ _)
      | (with_reducible exact scutagelaw01_wakes.mono _)
      | (with_reducible exact LeO.refl _)
      | (with_reducible exact LeO.none _)
      | (with_reducible refine LeO.ite ?_ ?_)
      | (with_reducible refine LeO.bind ?_ (fun _ => ?_))
      | exact ih0 _ _ _ _
      | exact ih1 _ _ _
      | exact ih2 _ _
      | exact rate_Of.mono _ _ _
      | exact scutagelaw01_wakes.mono _
      | exact LeO.none _
      | refine LeO.ite ?_ ?_
      | refine LeO.bind ?_ (fun _ => ?_)
theorem scutagelaw01_RateRounds.mono : ∀ a0 a1 k, LeO (scutagelaw01_RateRounds.f k a0 a1) (scutagelaw01_RateRounds.f (k + 1) a0 a1) := by
  intro a0 a1 k
  obtain ⟨ih0, ih1, ih2⟩ := scutagelaw01_RateRounds.mono_l k
  unfold scutagelaw01_RateRounds.f
  repeat' first
      | (with_reducible exact ih0 _ _ _ _)
      | (with_reducible exact ih1 _ _ _)
      | (with_reducible exact ih2 _ _)
      | (with_reducible exact rate_Of.mono _ _ _)
      | (with_reducible exact scutagelaw01_wakes.mono _)
      | (with_reducible exact LeO.refl _)
      | (with_reducible exact LeO.none _)
      | (with_reducible refine LeO.ite ?_ ?_)
      | (with_reducible refine LeO.bind ?_ (fun _ => ?_))
      | exact ih0 _ _ _ _
      | exact ih1 _ _ _
      | exact ih2 _ _
      | exact rate_Of.mono _ _ _
      | exact scutagelaw01_wakes.mono _
      | exact LeO.none _
      | refine LeO.ite ?_ ?_
      | refine LeO.bind ?_ (fun _ => ?_)
set_option maxHeartbeats 8000000 in
set_option maxRecDepth 100000 in
theorem scutagelaw01_RateRounds.calls (k : Nat) (a0 : Int) (a1 : Int) (r : Bool) (w : World) (h : scutagelaw01_RateRounds.f k a0 a1 = some r) :
    Calls Try.prog 4 #[.int .i64 a0, .int .i64 a1] w fun e w' => e = .returned (.bool r) ∧ Drawn0 w w' := by
  have H : ((scutagekeep_Within.f a0 800000000001).bind fun t105 => ((scutagekeep_Within.f a1 10000001).bind fun t106 => ((rate_Of.f k (wrap64 (t105 - 400000000000)) t106).bind fun bt107 => ((rate_Of.f k (wrap64 (-(wrap64 (t105 - 400000000000)))) t106).bind fun bt109 => (if bt107.2 = true then (if bt109.2 = true then (scutagelaw01_RateRounds.j0 k (wrap64 (t105 - 400000000000)) t106 bt107.1 (bt107.1 != (wrap64 (-bt109.1)))) else (scutagelaw01_RateRounds.j0 k (wrap64 (t105 - 400000000000)) t106 bt107.1 true)) else (scutagelaw01_RateRounds.j0 k (wrap64 (t105 - 400000000000)) t106 bt107.1 true)))))) = some r := h
  clear h
  replace H := Option.bind_eq_some_iff.mp H
  obtain ⟨t105, A30, H⟩ := H
  replace H : ((scutagekeep_Within.f a1 10000001).bind fun t106 => ((rate_Of.f k (wrap64 (t105 - 400000000000)) t106).bind fun bt107 => ((rate_Of.f k (wrap64 (-(wrap64 (t105 - 400000000000)))) t106).bind fun bt109 => (if bt107.2 = true then (if bt109.2 = true then (scutagelaw01_RateRounds.j0 k (wrap64 (t105 - 400000000000)) t106 bt107.1 (bt107.1 != (wrap64 (-bt109.1)))) else (scutagelaw01_RateRounds.j0 k (wrap64 (t105 - 400000000000)) t106 bt107.1 true)) else (scutagelaw01_RateRounds.j0 k (wrap64 (t105 - 400000000000)) t106 bt107.1 true))))) = some r := H
  have A3 := Aside0.mk A30
  clear A30
  replace H := Option.bind_eq_some_iff.mp H
  obtain ⟨t106, A40, H⟩ := H
  replace H : ((rate_Of.f k (wrap64 (t105 - 400000000000)) t106).bind fun bt107 => ((rate_Of.f k (wrap64 (-(wrap64 (t105 - 400000000000)))) t106).bind fun bt109 => (if bt107.2 = true then (if bt109.2 = true then (scutagelaw01_RateRounds.j0 k (wrap64 (t105 - 400000000000)) t106 bt107.1 (bt107.1 != (wrap64 (-bt109.1)))) else (scutagelaw01_RateRounds.j0 k (wrap64 (t105 - 400000000000)) t106 bt107.1 true)) else (scutagelaw01_RateRounds.j0 k (wrap64 (t105 - 400000000000)) t106 bt107.1 true)))) = some r := H
  have A4 := Aside0.mk A40
  clear A40
  replace H := Option.bind_eq_some_iff.mp H
  obtain ⟨⟨t107, t108⟩, A50, H⟩ := H
  replace H : ((rate_Of.f k (wrap64 (-(wrap64 (t105 - 400000000000)))) t106).bind fun bt109 => (if t108 = true then (if bt109.2 = true then (scutagelaw01_RateRounds.j0 k (wrap64 (t105 - 400000000000)) t106 t107 (t107 != (wrap64 (-bt109.1)))) else (scutagelaw01_RateRounds.j0 k (wrap64 (t105 - 400000000000)) t106 t107 true)) else (scutagelaw01_RateRounds.j0 k (wrap64 (t105 - 400000000000)) t106 t107 true))) = some r := H
  have A5 := Aside0.mk A50
  clear A50
  replace H := Option.bind_eq_some_iff.mp H
  obtain ⟨⟨t109, t110⟩, A60, H⟩ := H
  replace H : (if t108 = true then (if t110 = true then (scutagelaw01_RateRounds.j0 k (wrap64 (t105 - 400000000000)) t106 t107 (t107 != (wrap64 (-t109)))) else (scutagelaw01_RateRounds.j0 k (wrap64 (t105 - 400000000000)) t106 t107 true)) else (scutagelaw01_RateRounds.j0 k (wrap64 (t105 - 400000000000)) t106 t107 true)) = some r := H
  have A6 := Aside0.mk A60
  clear A60
  have HC7 := Aside0.mk H
  clear H
  go_enter Try.func4, Try.ntmps4
  go_upto_region 4 with (first | ((with_reducible refine gate_callee (f := 13) rfl ?_); refine goesL_ (some 15) rfl rfl Try.func13 (by kernel_rfl) rfl #[.int .i64 a0, .int .i64 800000000001] rfl (by (try simp only [List.map_toArray, List.map_cons, List.map_nil]); first | done | rfl | (simp only [List.length_drop, List.length_take]; rfl)) ?_; (with_reducible refine (scutagekeep_Within.calls a0 800000000001 t105 _ A3.out).mono ?_); rintro e w' ⟨rfl, ⟨nd, rfl⟩⟩; refine ⟨_, rfl, ?_⟩) | ((with_reducible refine gate_callee (f := 13) rfl ?_); refine goesL_ (some 18) rfl rfl Try.func13 (by kernel_rfl) rfl #[.int .i64 a1, .int .i64 10000001] rfl (by (try simp only [List.map_toArray, List.map_cons, List.map_nil]); first | done | rfl | (simp only [List.length_drop, List.length_take]; rfl)) ?_; (with_reducible refine (scutagekeep_Within.calls a1 10000001 t106 _ A4.out).mono ?_); rintro e w' ⟨rfl, ⟨nd, rfl⟩⟩; refine ⟨_, rfl, ?_⟩) | ((with_reducible refine gate_callee (f := 14) rfl ?_); refine goesL_ (some 22) rfl rfl Try.func14 (by kernel_rfl) rfl #[.int .i64 (wrap64 (t105 - 400000000000)), .int .i64 t106] rfl (by (try simp only [List.map_toArray, List.map_cons, List.map_nil]); first | done | rfl | (simp only [List.length_drop, List.length_take]; rfl)) ?_; (with_reducible refine (rate_Of.calls k (wrap64 (t105 - 400000000000)) t106 t107 t108 _ A5.out).mono ?_); rintro e w' ⟨rfl, ⟨nd, rfl⟩⟩; refine ⟨_, rfl, ?_⟩) | ((with_reducible refine gate_callee (f := 14) rfl ?_); refine goesL_ (some 29) rfl rfl Try.func14 (by kernel_rfl) rfl #[.int .i64 (wrap64 (-(wrap64 (t105 - 400000000000)))), .int .i64 t106] rfl (by (try simp only [List.map_toArray, List.map_cons, List.map_nil]); first | done | rfl | (simp only [List.length_drop, List.length_take]; rfl)) ?_; (with_reducible refine (rate_Of.calls k (wrap64 (-(wrap64 (t105 - 400000000000)))) t106 t109 t110 _ A6.out).mono ?_); rintro e w' ⟨rfl, ⟨nd, rfl⟩⟩; refine ⟨_, rfl, ?_⟩))
  (try simp only [Act.put, List.setIfInBounds_toArray, List.set_cons_zero, List.set_cons_succ])
  go_cut [43] (fun v43 wc => ∃ (kq : Nat) (x43_6 : Bool), v43 = .bool x43_6 ∧ Aside0 (scutagelaw01_RateRounds.j0 kq (wrap64 (t105 - 400000000000)) t106 t107 x43_6 = some r) ∧ Aside0 (kq ≤ k) ∧ Drawn0 w wc)
  case first =>
    have H := HC7.out
    clear HC7
    by_cases c8 : t108 = true
    · subst c8
      have H1 : (if t110 = true then (scutagelaw01_RateRounds.j0 k (wrap64 (t105 - 400000000000)) t106 t107 (t107 != (wrap64 (-t109)))) else (scutagelaw01_RateRounds.j0 k (wrap64 (t105 - 400000000000)) t106 t107 true)) = some r := by rw [if_pos rfl] at H; exact H
      clear H
      have H := H1
      clear H1
      by_cases c9 : t110 = true
      · subst c9
        have H1 : (scutagelaw01_RateRounds.j0 k (wrap64 (t105 - 400000000000)) t106 t107 (t107 != (wrap64 (-t109)))) = some r := by rw [if_pos rfl] at H; exact H
        clear H
        have H := H1
        clear H1
        have H' := Aside0.mk H
        clear H
        go_wp2
        go_meet
        case rel => exact ⟨_, ((t107 != (wrap64 (-t109)))), (by first | rfl | (simp; done) | (simp [*]; done)), H', ⟨by first | omega | exact Nat.le_refl _⟩, by repeat (first | exact Drawn0.refl _ | apply Drawn0.step)⟩
      · replace c9 := Bool.eq_false_iff.mpr c9
        subst c9
        have H1 : (scutagelaw01_RateRounds.j0 k (wrap64 (t105 - 400000000000)) t106 t107 true) = some r := by rw [if_neg (show ¬ (false = true) by decide)] at H; exact H
        clear H
        have H := H1
        clear H1
        have H' := Aside0.mk H
        clear H
        go_wp2
        go_meet
        case rel => exact ⟨_, (true), (by first | rfl | (simp; done) | (simp [*]; done)), H', ⟨by first | omega | exact Nat.le_refl _⟩, by repeat (first | exact Drawn0.refl _ | apply Drawn0.step)⟩
    · replace c8 := Bool.eq_false_iff.mpr c8
      subst c8
      have H1 : (scutagelaw01_RateRounds.j0 k (wrap64 (t105 - 400000000000)) t106 t107 true) = some r := by rw [if_neg (show ¬ (false = true) by decide)] at H; exact H
      clear H
      have H := H1
      clear H1
      have H' := Aside0.mk H
      clear H
      go_wp2
      go_meet
      case rel => exact ⟨_, (true), (by first | rfl | (simp; done) | (simp [*]; done)), H', ⟨by first | omega | exact Nat.le_refl _⟩, by repeat (first | exact Drawn0.refl _ | apply Drawn0.step)⟩
  case rest =>
    clear HC7
    try clear c1
    try clear p2
    try clear c4
    try clear p6
    try clear c8
    try clear c9
    obtain ⟨kq, x43_6, rfl, HA, HJ6, ⟨mc6, rfl⟩⟩ := hcut
    cases kq with
    | zero => exact absurd HA.out (by simp [scutagelaw01_RateRounds.j0])
    | succ kj6 =>
      have H := HA.out
      clear HA
      simp only [scutagelaw01_RateRounds.j0] at H
      by_cases c10 : x43_6 = true
      · subst c10
        have H1 : (some false) = some r := by rw [if_pos rfl] at H; exact H
        clear H
        have H := H1
        clear H1
        obtain rfl := Option.some.inj H
        go_wp2
        go_ret
        exact ⟨by first | rfl | (simp; done) | (simp [*]; done), by repeat (first | exact Drawn0.refl _ | apply Drawn0.step)⟩
      · replace c10 := Bool.eq_false_iff.mpr c10
        subst c10
        have H1 : (if (wrap64 ((wrap64 ((wrap64 (t105 - 400000000000)) * t106)) - (wrap64 (t107 * 1000000)))) < (-500000) then (scutagelaw01_RateRounds.j1 kj6 (wrap64 (t105 - 400000000000)) (wrap64 ((wrap64 ((wrap64 (t105 - 400000000000)) * t106)) - (wrap64 (t107 * 1000000)))) true) else (scutagelaw01_RateRounds.j1 kj6 (wrap64 (t105 - 400000000000)) (wrap64 ((wrap64 ((wrap64 (t105 - 400000000000)) * t106)) - (wrap64 (t107 * 1000000)))) (decide ((wrap64 ((wrap64 ((wrap64 (t105 - 400000000000)) * t106)) - (wrap64 (t107 * 1000000)))) > 500000)))) = some r := by rw [if_neg (show ¬ (false = true) by decide)] at H; exact H
        clear H
        have H := H1
        clear H1
        have HC11 := Aside0.mk H
        clear H
        go_upto_region 7 with (fail)
        go_cut [55] (fun v55 wc => ∃ (kq : Nat) (x55_10 : Bool), v55 = .bool x55_10 ∧ Aside0 (scutagelaw01_RateRounds.j1 kq (wrap64 (t105 - 400000000000)) (wrap64 ((wrap64 ((wrap64 (t105 - 400000000000)) * t106)) - (wrap64 (t107 * 1000000)))) x55_10 = some r) ∧ Aside0 (kq ≤ kj6) ∧ Drawn0 w wc)
        case first =>
          have H := HC11.out
          clear HC11
          by_cases c12 : (wrap64 ((wrap64 ((wrap64 (t105 - 400000000000)) * t106)) - (wrap64 (t107 * 1000000)))) < (-500000)
          · rw [if_pos c12] at H
            have c12b0 : decide ((wrap64 ((wrap64 ((wrap64 (t105 - 400000000000)) * t106)) - (wrap64 (t107 * 1000000)))) < (-500000)) = true := decide_eq_true c12
            clear c12
            (first | rw [c12b0] | (simp only [i64_w, i32_w]; rw [c12b0]) | skip)
            have H' := Aside0.mk H
            clear H
            go_wp2
            go_meet
            case rel => exact ⟨_, (true), (by first | rfl | (simp; done) | (simp [*]; done)), H', ⟨by have := HJ6.out; first | omega | exact Nat.le_refl _⟩, by repeat (first | exact Drawn0.refl _ | apply Drawn0.step)⟩
          · rw [if_neg c12] at H
            have c12b0 : decide ((wrap64 ((wrap64 ((wrap64 (t105 - 400000000000)) * t106)) - (wrap64 (t107 * 1000000)))) < (-500000)) = false := decide_eq_false c12
            clear c12
            (first | rw [c12b0] | (simp only [i64_w, i32_w]; rw [c12b0]) | skip)
            have H' := Aside0.mk H
            clear H
            go_wp2
            go_meet
            case rel => exact ⟨_, (decide ((wrap64 ((wrap64 ((wrap64 (t105 - 400000000000)) * t106)) - (wrap64 (t107 * 1000000)))) > 500000)), (by first | rfl | (simp; done) | (simp [*]; done)), H', ⟨by have := HJ6.out; first | omega | exact Nat.le_refl _⟩, by repeat (first | exact Drawn0.refl _ | apply Drawn0.step)⟩
        case rest =>
          clear HC11
          try clear c1
          try clear p2
          try clear c4
          try clear c6
          try clear p6
          try clear c8
          try clear c9
          try clear c10
          try clear c12
          try clear c12b0
          try clear p2
          try clear p6
          obtain ⟨kq, x55_10, rfl, HA, HJ10, ⟨mc10, rfl⟩⟩ := hcut
          cases kq with
          | zero => exact absurd HA.out (by simp [scutagelaw01_RateRounds.j1])
          | succ kj10 =>
            have H := HA.out
            clear HA
            simp only [scutagelaw01_RateRounds.j1] at H
            by_cases c13 : x55_10 = true
            · subst c13
              have H1 : (some false) = some r := by rw [if_pos rfl] at H; exact H
              clear H
              have H := H1
              clear H1
              obtain rfl := Option.some.inj H
              go_wp2
              go_ret
              exact ⟨by first | rfl | (simp; done) | (simp [*]; done), by repeat (first | exact Drawn0.refl _ | apply Drawn0.step)⟩
            · replace c13 := Bool.eq_false_iff.mpr c13
              subst c13
              have H1 : (if (wrap64 ((wrap64 ((wrap64 (t105 - 400000000000)) * t106)) - (wrap64 (t107 * 1000000)))) = 500000 then (if (wrap64 (t105 - 400000000000)) > 0 then (scutagelaw01_RateRounds.j2 kj10 (wrap64 (t105 - 400000000000)) true) else (if (wrap64 ((wrap64 ((wrap64 (t105 - 400000000000)) * t106)) - (wrap64 (t107 * 1000000)))) = (-500000) then (scutagelaw01_RateRounds.j2 kj10 (wrap64 (t105 - 400000000000)) (decide ((wrap64 (t105 - 400000000000)) < 0))) else (scutagelaw01_RateRounds.j2 kj10 (wrap64 (t105 - 400000000000)) false))) else (if (wrap64 ((wrap64 ((wrap64 (t105 - 400000000000)) * t106)) - (wrap64 (t107 * 1000000)))) = (-500000) then (scutagelaw01_RateRounds.j2 kj10 (wrap64 (t105 - 400000000000)) (decide ((wrap64 (t105 - 400000000000)) < 0))) else (scutagelaw01_RateRounds.j2 kj10 (wrap64 (t105 - 400000000000)) false))) = some r := by rw [if_neg (show ¬ (false = true) by decide)] at H; exact H
              clear H
              have H := H1
              clear H1
              have HC14 := Aside0.mk H
              clear H
              go_upto_region 9 with (fail)
              go_cut [69] (fun v69 wc => ∃ (kq : Nat) (x69_13 : Bool), v69 = .bool x69_13 ∧ Aside0 (scutagelaw01_RateRounds.j2 kq (wrap64 (t105 - 400000000000)) x69_13 = some r) ∧ Aside0 (kq ≤ kj10) ∧ Drawn0 w wc)
              case first =>
                have H := HC14.out
                clear HC14
                by_cases c15 : (wrap64 ((wrap64 ((wrap64 (t105 - 400000000000)) * t106)) - (wrap64 (t107 * 1000000)))) = 500000
                · rw [if_pos c15] at H
                  have c15b0 : ((wrap64 ((wrap64 ((wrap64 (t105 - 400000000000)) * t106)) - (wrap64 (t107 * 1000000)))) == 500000) = true := beq_iff_eq.mpr c15
                  have c15b1 : ((wrap64 ((wrap64 ((wrap64 (t105 - 400000000000)) * t106)) - (wrap64 (t107 * 1000000)))) != 500000) = false := bne_eq_false_iff_eq.mpr c15
                  clear c15
                  (first | rw [c15b0] | (simp only [i64_w, i32_w]; rw [c15b0]) | skip)
                  by_cases c16 : (wrap64 (t105 - 400000000000)) > 0
                  · rw [if_pos c16] at H
                    have c16b0 : decide (0 < (wrap64 (t105 - 400000000000))) = true := decide_eq_true c16
                    clear c16
                    have H' := Aside0.mk H
                    clear H
                    go_wp2
                    go_meet
                    case rel => exact ⟨_, (true), (by first | rfl | (simp; done) | (simp [*]; done)), H', ⟨by have := HJ6.out; have := HJ10.out; first | omega | exact Nat.le_refl _⟩, by repeat (first | exact Drawn0.refl _ | apply Drawn0.step)⟩
                  · rw [if_neg c16] at H
                    have c16b0 : decide (0 < (wrap64 (t105 - 400000000000))) = false := decide_eq_false c16
                    clear c16
                    by_cases c17 : (wrap64 ((wrap64 ((wrap64 (t105 - 400000000000)) * t106)) - (wrap64 (t107 * 1000000)))) = (-500000)
                    · rw [if_pos c17] at H
                      have c17b0 : ((wrap64 ((wrap64 ((wrap64 (t105 - 400000000000)) * t106)) - (wrap64 (t107 * 1000000)))) == (-500000)) = true := beq_iff_eq.mpr c17
                      have c17b1 : ((wrap64 ((wrap64 ((wrap64 (t105 - 400000000000)) * t106)) - (wrap64 (t107 * 1000000)))) != (-500000)) = false := bne_eq_false_iff_eq.mpr c17
                      clear c17
                      have H' := Aside0.mk H
                      clear H
                      go_wp2
                      go_meet
                      case rel => exact ⟨_, (decide ((wrap64 (t105 - 400000000000)) < 0)), (by first | rfl | (simp; done) | (simp [*]; done)), H', ⟨by have := HJ6.out; have := HJ10.out; first | omega | exact Nat.le_refl _⟩, by repeat (first | exact Drawn0.refl _ | apply Drawn0.step)⟩
                    · rw [if_neg c17] at H
                      have c17b0 : ((wrap64 ((wrap64 ((wrap64 (t105 - 400000000000)) * t106)) - (wrap64 (t107 * 1000000)))) == (-500000)) = false := beq_eq_false_iff_ne.mpr c17
                      have c17b1 : ((wrap64 ((wrap64 ((wrap64 (t105 - 400000000000)) * t106)) - (wrap64 (t107 * 1000000)))) != (-500000)) = true := bne_iff_ne.mpr c17
                      have H' := Aside0.mk H
                      clear H
                      go_wp2
                      go_meet
                      case rel => exact ⟨_, (false), (by first | rfl | (simp; done) | (simp [*]; done)), H', ⟨by have := HJ6.out; have := HJ10.out; first | omega | exact Nat.le_refl _⟩, by repeat (first | exact Drawn0.refl _ | apply Drawn0.step)⟩
                · rw [if_neg c15] at H
                  have c15b0 : ((wrap64 ((wrap64 ((wrap64 (t105 - 400000000000)) * t106)) - (wrap64 (t107 * 1000000)))) == 500000) = false := beq_eq_false_iff_ne.mpr c15
                  have c15b1 : ((wrap64 ((wrap64 ((wrap64 (t105 - 400000000000)) * t106)) - (wrap64 (t107 * 1000000)))) != 500000) = true := bne_iff_ne.mpr c15
                  (first | rw [c15b0] | (simp only [i64_w, i32_w]; rw [c15b0]) | skip)
                  by_cases c18 : (wrap64 ((wrap64 ((wrap64 (t105 - 400000000000)) * t106)) - (wrap64 (t107 * 1000000)))) = (-500000)
                  · rw [if_pos c18] at H
                    have c18b0 : ((wrap64 ((wrap64 ((wrap64 (t105 - 400000000000)) * t106)) - (wrap64 (t107 * 1000000)))) == (-500000)) = true := beq_iff_eq.mpr c18
                    have c18b1 : ((wrap64 ((wrap64 ((wrap64 (t105 - 400000000000)) * t106)) - (wrap64 (t107 * 1000000)))) != (-500000)) = false := bne_eq_false_iff_eq.mpr c18
                    clear c18
                    have H' := Aside0.mk H
                    clear H
                    go_wp2
                    go_meet
                    case rel => exact ⟨_, (decide ((wrap64 (t105 - 400000000000)) < 0)), (by first | rfl | (simp; done) | (simp [*]; done)), H', ⟨by have := HJ6.out; have := HJ10.out; first | omega | exact Nat.le_refl _⟩, by repeat (first | exact Drawn0.refl _ | apply Drawn0.step)⟩
                  · rw [if_neg c18] at H
                    have c18b0 : ((wrap64 ((wrap64 ((wrap64 (t105 - 400000000000)) * t106)) - (wrap64 (t107 * 1000000)))) == (-500000)) = false := beq_eq_false_iff_ne.mpr c18
                    have c18b1 : ((wrap64 ((wrap64 ((wrap64 (t105 - 400000000000)) * t106)) - (wrap64 (t107 * 1000000)))) != (-500000)) = true := bne_iff_ne.mpr c18
                    have H' := Aside0.mk H
                    clear H
                    go_wp2
                    go_meet
                    case rel => exact ⟨_, (false), (by first | rfl | (simp; done) | (simp [*]; done)), H', ⟨by have := HJ6.out; have := HJ10.out; first | omega | exact Nat.le_refl _⟩, by repeat (first | exact Drawn0.refl _ | apply Drawn0.step)⟩
              case rest =>
                clear HC14
                try clear c1
                try clear p2
                try clear c4
                try clear c6
                try clear p6
                try clear c8
                try clear c9
                try clear c10
                try clear c12
                try clear c12b0
                try clear c13
                try clear c14
                try clear c15
                try clear c15b0
                try clear c15b1
                try clear c16
                try clear c16b0
                try clear c17
                try clear c17b0
                try clear c17b1
                try clear c18
                try clear c18b0
                try clear c18b1
                try clear p2
                try clear p6
                obtain ⟨kq, x69_13, rfl, HA, HJ13, ⟨mc13, rfl⟩⟩ := hcut
                cases kq with
                | zero => exact absurd HA.out (by simp [scutagelaw01_RateRounds.j2])
                | succ kj13 =>
                  have H := HA.out
                  clear HA
                  simp only [scutagelaw01_RateRounds.j2] at H
                  by_cases c19 : x69_13 = true
                  · subst c19
                    have H1 : (some false) = some r := by rw [if_pos rfl] at H; exact H
                    clear H
                    have H := H1
                    clear H1
                    obtain rfl := Option.some.inj H
                    go_wp2
                    go_ret
                    exact ⟨by first | rfl | (simp; done) | (simp [*]; done), by repeat (first | exact Drawn0.refl _ | apply Drawn0.step)⟩
                  · replace c19 := Bool.eq_false_iff.mpr c19
                    subst c19
                    have H1 : ((rate_Of.f kj13 (wrap64 (t105 - 400000000000)) 1000000).bind fun bt111 => ((rate_Of.f kj13 (wrap64 (t105 - 400000000000)) 0).bind fun bt113 => (if bt111.1 = (wrap64 (t105 - 400000000000)) then (if bt113.1 = 0 then ((scutagelaw01_wakes.f kj13).bind fun t115 => (some t115)) else (some false)) else (some false)))) = some r := by rw [if_neg (show ¬ (false = true) by decide)] at H; exact H
                    clear H
                    have H := H1
                    clear H1
                    replace H := Option.bind_eq_some_iff.mp H
                    obtain ⟨⟨t111, t112⟩, A200, H⟩ := H
                    replace H : ((rate_Of.f kj13 (wrap64 (t105 - 400000000000)) 0).bind fun bt113 => (if t111 = (wrap64 (t105 - 400000000000)) then (if bt113.1 = 0 then ((scutagelaw01_wakes.f kj13).bind fun t115 => (some t115)) else (some false)) else (some false))) = some r := H
                    have A20 := Aside0.mk A200
                    clear A200
                    replace H := Option.bind_eq_some_iff.mp H
                    obtain ⟨⟨t113, t114⟩, A210, H⟩ := H
                    replace H : (if t111 = (wrap64 (t105 - 400000000000)) then (if t113 = 0 then ((scutagelaw01_wakes.f kj13).bind fun t115 => (some t115)) else (some false)) else (some false)) = some r := H
                    have A21 := Aside0.mk A210
                    clear A210
                    by_cases c22 : t111 = (wrap64 (t105 - 400000000000))
                    · rw [if_pos c22] at H
                      have c22b0 : (t111 == (wrap64 (t105 - 400000000000))) = true := beq_iff_eq.mpr c22
                      have c22b1 : (t111 != (wrap64 (t105 - 400000000000))) = false := bne_eq_false_iff_eq.mpr c22
                      clear c22
                      by_cases c23 : t113 = 0
                      · rw [if_pos c23] at H
                        have c23b0 : (t113 == 0) = true := beq_iff_eq.mpr c23
                        have c23b1 : (t113 != 0) = false := bne_eq_false_iff_eq.mpr c23
                        clear c23
                        replace H := Option.bind_eq_some_iff.mp H
                        obtain ⟨t115, A240, H⟩ := H
                        replace H : (some t115) = some r := H
                        have A24 := Aside0.mk A240
                        clear A240
                        obtain rfl := Option.some.inj H
                        go_wp2_with (first | ((with_reducible refine gate_callee (f := 14) rfl ?_); refine goesL_ (some 72) rfl rfl Try.func14 (by kernel_rfl) rfl #[.int .i64 (wrap64 (t105 - 400000000000)), .int .i64 1000000] rfl (by (try simp only [List.map_toArray, List.map_cons, List.map_nil]); first | done | rfl | (simp only [List.length_drop, List.length_take]; rfl)) ?_; (with_reducible refine (rate_Of.calls kj13 (wrap64 (t105 - 400000000000)) 1000000 t111 t112 _ A20.out).mono ?_); rintro e w' ⟨rfl, ⟨nd, rfl⟩⟩; refine ⟨_, rfl, ?_⟩) | ((with_reducible refine gate_callee (f := 14) rfl ?_); refine goesL_ (some 77) rfl rfl Try.func14 (by kernel_rfl) rfl #[.int .i64 (wrap64 (t105 - 400000000000)), .int .i64 0] rfl (by (try simp only [List.map_toArray, List.map_cons, List.map_nil]); first | done | rfl | (simp only [List.length_drop, List.length_take]; rfl)) ?_; (with_reducible refine (rate_Of.calls kj13 (wrap64 (t105 - 400000000000)) 0 t113 t114 _ A21.out).mono ?_); rintro e w' ⟨rfl, ⟨nd, rfl⟩⟩; refine ⟨_, rfl, ?_⟩) | (go_at_call 15; (with_reducible refine (scutagelaw01_wakes.calls kj13  t115 _ A24.out).mono ?_); rintro e w' ⟨rfl, ⟨nd, rfl⟩⟩))
                        go_ret
                        exact ⟨by first | rfl | (simp; done) | (simp [*]; done), by repeat (first | exact Drawn0.refl _ | apply Drawn0.step)⟩
                      · rw [if_neg c23] at H
                        have c23b0 : (t113 == 0) = false := beq_eq_false_iff_ne.mpr c23
                        have c23b1 : (t113 != 0) = true := bne_iff_ne.mpr c23
                        obtain rfl := Option.some.inj H
                        go_wp2_with (first | ((with_reducible refine gate_callee (f := 14) rfl ?_); refine goesL_ (some 72) rfl rfl Try.func14 (by kernel_rfl) rfl #[.int .i64 (wrap64 (t105 - 400000000000)), .int .i64 1000000] rfl (by (try simp only [List.map_toArray, List.map_cons, List.map_nil]); first | done | rfl | (simp only [List.length_drop, List.length_take]; rfl)) ?_; (with_reducible refine (rate_Of.calls kj13 (wrap64 (t105 - 400000000000)) 1000000 t111 t112 _ A20.out).mono ?_); rintro e w' ⟨rfl, ⟨nd, rfl⟩⟩; refine ⟨_, rfl, ?_⟩) | ((with_reducible refine gate_callee (f := 14) rfl ?_); refine goesL_ (some 77) rfl rfl Try.func14 (by kernel_rfl) rfl #[.int .i64 (wrap64 (t105 - 400000000000)), .int .i64 0] rfl (by (try simp only [List.map_toArray, List.map_cons, List.map_nil]); first | done | rfl | (simp only [List.length_drop, List.length_take]; rfl)) ?_; (with_reducible refine (rate_Of.calls kj13 (wrap64 (t105 - 400000000000)) 0 t113 t114 _ A21.out).mono ?_); rintro e w' ⟨rfl, ⟨nd, rfl⟩⟩; refine ⟨_, rfl, ?_⟩))
                        go_ret
                        exact ⟨by first | rfl | (simp; done) | (simp [*]; done), by repeat (first | exact Drawn0.refl _ | apply Drawn0.step)⟩
                    · rw [if_neg c22] at H
                      have c22b0 : (t111 == (wrap64 (t105 - 400000000000))) = false := beq_eq_false_iff_ne.mpr c22
                      have c22b1 : (t111 != (wrap64 (t105 - 400000000000))) = true := bne_iff_ne.mpr c22
                      obtain rfl := Option.some.inj H
                      go_wp2_with (first | ((with_reducible refine gate_callee (f := 14) rfl ?_); refine goesL_ (some 72) rfl rfl Try.func14 (by kernel_rfl) rfl #[.int .i64 (wrap64 (t105 - 400000000000)), .int .i64 1000000] rfl (by (try simp only [List.map_toArray, List.map_cons, List.map_nil]); first | done | rfl | (simp only [List.length_drop, List.length_take]; rfl)) ?_; (with_reducible refine (rate_Of.calls kj13 (wrap64 (t105 - 400000000000)) 1000000 t111 t112 _ A20.out).mono ?_); rintro e w' ⟨rfl, ⟨nd, rfl⟩⟩; refine ⟨_, rfl, ?_⟩) | ((with_reducible refine gate_callee (f := 14) rfl ?_); refine goesL_ (some 77) rfl rfl Try.func14 (by kernel_rfl) rfl #[.int .i64 (wrap64 (t105 - 400000000000)), .int .i64 0] rfl (by (try simp only [List.map_toArray, List.map_cons, List.map_nil]); first | done | rfl | (simp only [List.length_drop, List.length_take]; rfl)) ?_; (with_reducible refine (rate_Of.calls kj13 (wrap64 (t105 - 400000000000)) 0 t113 t114 _ A21.out).mono ?_); rintro e w' ⟨rfl, ⟨nd, rfl⟩⟩; refine ⟨_, rfl, ?_⟩))
                      go_ret
                      exact ⟨by first | rfl | (simp; done) | (simp [*]; done), by repeat (first | exact Drawn0.refl _ | apply Drawn0.step)⟩

/-- THE ONE PURE STATEMENT of scutagelaw01_RateRounds: yours. -/
def scutagelaw01_RateRounds.Pure : Prop := ∀ (a0 : Int) (a1 : Int), (Lit.int .i64 a0).wf = true → (Lit.int .i64 a1).wf = true → ∃ k, scutagelaw01_RateRounds.f k a0 a1 = some true
theorem scutagelaw01_RateRounds.walk (P : scutagelaw01_RateRounds.Pure) (a0 : Int) (a1 : Int) (w : World) (w0 : (Lit.int .i64 a0).wf = true) (w1 : (Lit.int .i64 a1).wf = true) :
    Calls Try.prog 4 #[.int .i64 a0, .int .i64 a1] w fun e w' => e = .returned (.bool true) ∧ Below w.heap.size w w' := by
  obtain ⟨k, h⟩ := P a0 a1 w0 w1
  refine (scutagelaw01_RateRounds.calls k a0 a1 true w h).mono ?_
  rintro e w' ⟨rfl, hd⟩
  exact ⟨rfl, hd.below⟩

end Go.Proofs.Ytalelfjjigfpeaa.PRateRounds
