-- PRINTED BY print.sh 35421559b90ae4d0a3588c463048766b98c2df88dd9212a6774a882060cdf62d: not written by this session
import Derived.Test.YtbpagnnfieipcaaPTrueupTellsx0
import Derived.Test.YtbpagnnfieipcaaPTrueupTellsx1
namespace Go.Proofs.Ytbpagnnfieipcaa.PTrueupTells
open Go.RowKit Go.Proofs.YtbpagnnfieipcaaW.PrintWords Go.Proofs.YtbpagnnfieipcaaW.PrintLast Go.Proofs.YtbpagnnfieipcaaW.PrintMore
attribute [local go_sem] max2_int min2_int max_two min_two max_three min_three max_four min_four   -- for this text's walks alone
set_option linter.unusedVariables false
set_option linter.unusedSimpArgs false

/-! ### scutagelaw22_wakes: function 23 -/
def scutagelaw22_wakes.f (k : Nat)  : Option (Bool) := (trueup_Of.f k 100 250000 25).bind fun bt122 => ((trueup_Of.f k 200 250000 25).bind fun bt124 => (if bt122.2 = 0 then (if bt122.1 = 0 then (if bt124.2 = 0 then (some (bt124.1 == 25)) else (some false)) else (some false)) else (some false)))
theorem scutagelaw22_wakes.mono : ∀ k, LeO (scutagelaw22_wakes.f k ) (scutagelaw22_wakes.f (k + 1) ) := by
  intro  k
  unfold scutagelaw22_wakes.f
  repeat' first
      | (with_reducible exact trueup_Of.mono _ _ _ _)
      | (with_reducible exact LeO.refl _)
      | (with_reducible exact LeO.none _)
      | (with_reducible refine LeO.ite ?_ ?_)
      | (with_reducible refine LeO.bind ?_ (fun _ => ?_))
      | exact trueup_Of.mono _ _ _ _
      | exact LeO.none _
      | refine LeO.ite ?_ ?_
      | refine LeO.bind ?_ (fun _ => ?_)
set_option maxHeartbeats 8000000 in
set_option maxRecDepth 100000 in
theorem scutagelaw22_wakes.calls (k : Nat)  (r : Bool) (w : World) (h : scutagelaw22_wakes.f k  = some r) :
    Calls Try.prog 23 #[] w fun e w' => e = .returned (.bool r) ∧ Drawn0 w w' := by
  have H : ((trueup_Of.f k 100 250000 25).bind fun bt122 => ((trueup_Of.f k 200 250000 25).bind fun bt124 => (if bt122.2 = 0 then (if bt122.1 = 0 then (if bt124.2 = 0 then (some (bt124.1 == 25)) else (some false)) else (some false)) else (some false)))) = some r := h
  clear h
  replace H := Option.bind_eq_some_iff.mp H
  obtain ⟨⟨t122, t123⟩, A10, H⟩ := H
  replace H : ((trueup_Of.f k 200 250000 25).bind fun bt124 => (if t123 = 0 then (if t122 = 0 then (if bt124.2 = 0 then (some (bt124.1 == 25)) else (some false)) else (some false)) else (some false))) = some r := H
  have A1 := Aside0.mk A10
  clear A10
  replace H := Option.bind_eq_some_iff.mp H
  obtain ⟨⟨t124, t125⟩, A20, H⟩ := H
  replace H : (if t123 = 0 then (if t122 = 0 then (if t125 = 0 then (some (t124 == 25)) else (some false)) else (some false)) else (some false)) = some r := H
  have A2 := Aside0.mk A20
  clear A20
  by_cases c3 : t123 = 0
  · rw [if_pos c3] at H
    have c3b0 : (t123 == 0) = true := beq_iff_eq.mpr c3
    have c3b1 : (t123 != 0) = false := bne_eq_false_iff_eq.mpr c3
    clear c3
    by_cases c4 : t122 = 0
    · rw [if_pos c4] at H
      have c4b0 : (t122 == 0) = true := beq_iff_eq.mpr c4
      have c4b1 : (t122 != 0) = false := bne_eq_false_iff_eq.mpr c4
      clear c4
      by_cases c5 : t125 = 0
      · rw [if_pos c5] at H
        have c5b0 : (t125 == 0) = true := beq_iff_eq.mpr c5
        have c5b1 : (t125 != 0) = false := bne_eq_false_iff_eq.mpr c5
        clear c5
        obtain rfl := Option.some.inj H
        go_enter Try.func23, Try.ntmps23
        go_wp2_with (first | ((with_reducible refine gate_callee (f := 22) rfl ?_); refine goesL_ (some 6) rfl rfl Try.func22 (by kernel_rfl) rfl #[.int .i64 100, .int .i64 250000, .int .i64 25] rfl (by (try simp only [List.map_toArray, List.map_cons, List.map_nil]); first | done | rfl | (simp only [List.length_drop, List.length_take]; rfl)) ?_; (with_reducible refine (trueup_Of.calls k 100 250000 25 t122 t123 _ A1.out).mono ?_); rintro e w' ⟨rfl, ⟨nd, rfl⟩⟩; refine ⟨_, rfl, ?_⟩) | ((with_reducible refine gate_callee (f := 22) rfl ?_); refine goesL_ (some 10) rfl rfl Try.func22 (by kernel_rfl) rfl #[.int .i64 200, .int .i64 250000, .int .i64 25] rfl (by (try simp only [List.map_toArray, List.map_cons, List.map_nil]); first | done | rfl | (simp only [List.length_drop, List.length_take]; rfl)) ?_; (with_reducible refine (trueup_Of.calls k 200 250000 25 t124 t125 _ A2.out).mono ?_); rintro e w' ⟨rfl, ⟨nd, rfl⟩⟩; refine ⟨_, rfl, ?_⟩))
        go_ret
        exact ⟨by first | rfl | (simp; done) | (simp [*]; done), by repeat (first | exact Drawn0.refl _ | apply Drawn0.step)⟩
      · rw [if_neg c5] at H
        have c5b0 : (t125 == 0) = false := beq_eq_false_iff_ne.mpr c5
        have c5b1 : (t125 != 0) = true := bne_iff_ne.mpr c5
        obtain rfl := Option.some.inj H
        go_enter Try.func23, Try.ntmps23
        go_wp2_with (first | ((with_reducible refine gate_callee (f := 22) rfl ?_); refine goesL_ (some 6) rfl rfl Try.func22 (by kernel_rfl) rfl #[.int .i64 100, .int .i64 250000, .int .i64 25] rfl (by (try simp only [List.map_toArray, List.map_cons, List.map_nil]); first | done | rfl | (simp only [List.length_drop, List.length_take]; rfl)) ?_; (with_reducible refine (trueup_Of.calls k 100 250000 25 t122 t123 _ A1.out).mono ?_); rintro e w' ⟨rfl, ⟨nd, rfl⟩⟩; refine ⟨_, rfl, ?_⟩) | ((with_reducible refine gate_callee (f := 22) rfl ?_); refine goesL_ (some 10) rfl rfl Try.func22 (by kernel_rfl) rfl #[.int .i64 200, .int .i64 250000, .int .i64 25] rfl (by (try simp only [List.map_toArray, List.map_cons, List.map_nil]); first | done | rfl | (simp only [List.length_drop, List.length_take]; rfl)) ?_; (with_reducible refine (trueup_Of.calls k 200 250000 25 t124 t125 _ A2.out).mono ?_); rintro e w' ⟨rfl, ⟨nd, rfl⟩⟩; refine ⟨_, rfl, ?_⟩))
        go_ret
        exact ⟨by first | rfl | (simp; done) | (simp [*]; done), by repeat (first | exact Drawn0.refl _ | apply Drawn0.step)⟩
    · rw [if_neg c4] at H
      have c4b0 : (t122 == 0) = false := beq_eq_false_iff_ne.mpr c4
      have c4b1 : (t122 != 0) = true := bne_iff_ne.mpr c4
      obtain rfl := Option.some.inj H
      go_enter Try.func23, Try.ntmps23
      go_wp2_with (first | ((with_reducible refine gate_callee (f := 22) rfl ?_); refine goesL_ (some 6) rfl rfl Try.func22 (by kernel_rfl) rfl #[.int .i64 100, .int .i64 250000, .int .i64 25] rfl (by (try simp only [List.map_toArray, List.map_cons, List.map_nil]); first | done | rfl | (simp only [List.length_drop, List.length_take]; rfl)) ?_; (with_reducible refine (trueup_Of.calls k 100 250000 25 t122 t123 _ A1.out).mono ?_); rintro e w' ⟨rfl, ⟨nd, rfl⟩⟩; refine ⟨_, rfl, ?_⟩) | ((with_reducible refine gate_callee (f := 22) rfl ?_); refine goesL_ (some 10) rfl rfl Try.func22 (by kernel_rfl) rfl #[.int .i64 200, .int .i64 250000, .int .i64 25] rfl (by (try simp only [List.map_toArray, List.map_cons, List.map_nil]); first | done | rfl | (simp only [List.length_drop, List.length_take]; rfl)) ?_; (with_reducible refine (trueup_Of.calls k 200 250000 25 t124 t125 _ A2.out).mono ?_); rintro e w' ⟨rfl, ⟨nd, rfl⟩⟩; refine ⟨_, rfl, ?_⟩))
      go_ret
      exact ⟨by first | rfl | (simp; done) | (simp [*]; done), by repeat (first | exact Drawn0.refl _ | apply Drawn0.step)⟩
  · rw [if_neg c3] at H
    have c3b0 : (t123 == 0) = false := beq_eq_false_iff_ne.mpr c3
    have c3b1 : (t123 != 0) = true := bne_iff_ne.mpr c3
    obtain rfl := Option.some.inj H
    go_enter Try.func23, Try.ntmps23
    go_wp2_with (first | ((with_reducible refine gate_callee (f := 22) rfl ?_); refine goesL_ (some 6) rfl rfl Try.func22 (by kernel_rfl) rfl #[.int .i64 100, .int .i64 250000, .int .i64 25] rfl (by (try simp only [List.map_toArray, List.map_cons, List.map_nil]); first | done | rfl | (simp only [List.length_drop, List.length_take]; rfl)) ?_; (with_reducible refine (trueup_Of.calls k 100 250000 25 t122 t123 _ A1.out).mono ?_); rintro e w' ⟨rfl, ⟨nd, rfl⟩⟩; refine ⟨_, rfl, ?_⟩) | ((with_reducible refine gate_callee (f := 22) rfl ?_); refine goesL_ (some 10) rfl rfl Try.func22 (by kernel_rfl) rfl #[.int .i64 200, .int .i64 250000, .int .i64 25] rfl (by (try simp only [List.map_toArray, List.map_cons, List.map_nil]); first | done | rfl | (simp only [List.length_drop, List.length_take]; rfl)) ?_; (with_reducible refine (trueup_Of.calls k 200 250000 25 t124 t125 _ A2.out).mono ?_); rintro e w' ⟨rfl, ⟨nd, rfl⟩⟩; refine ⟨_, rfl, ?_⟩))
    go_ret
    exact ⟨by first | rfl | (simp; done) | (simp [*]; done), by repeat (first | exact Drawn0.refl _ | apply Drawn0.step)⟩

/-! ### scutageref01_Money: function 24 -/
def scutageref01_Money.f (a0 : Int) : Option (Bool) := if a0 ≥ (-100000000000) then (some (decide (a0 ≤ 100000000000))) else (some false)
set_option maxHeartbeats 8000000 in
set_option maxRecDepth 100000 in
theorem scutageref01_Money.calls (a0 : Int) (r : Bool) (w : World) (h : scutageref01_Money.f a0 = some r) :
    Calls Try.prog 24 #[.int .i64 a0] w fun e w' => e = .returned (.bool r) ∧ Drawn0 w w' := by
  have H : (if a0 ≥ (-100000000000) then (some (decide (a0 ≤ 100000000000))) else (some false)) = some r := h
  clear h
  by_cases c2 : a0 ≥ (-100000000000)
  · rw [if_pos c2] at H
    have c2b0 : decide ((-100000000000) ≤ a0) = true := decide_eq_true c2
    clear c2
    obtain rfl := Option.some.inj H
    go_enter Try.func24, Try.ntmps24
    go_wp2
    go_ret
    exact ⟨by first | rfl | (simp; done) | (simp [*]; done), by repeat (first | exact Drawn0.refl _ | apply Drawn0.step)⟩
  · rw [if_neg c2] at H
    have c2b0 : decide ((-100000000000) ≤ a0) = false := decide_eq_false c2
    clear c2
    obtain rfl := Option.some.inj H
    go_enter Try.func24, Try.ntmps24
    go_wp2
    go_ret
    exact ⟨by first | rfl | (simp; done) | (simp [*]; done), by repeat (first | exact Drawn0.refl _ | apply Drawn0.step)⟩

/-! ### scutagelaw22_TrueupTells: function 8 -/
mutual
def scutagelaw22_TrueupTells.j0 : Nat → Int → Int → Int → Int → Int → Bool → Option (Bool)
  | 0, _, _, _, _, _, _ => none
  | k + 1, x2, x7, x8, x9, x10, x36 => if x36 = true then (scutagelaw22_TrueupTells.j1 k x2 x7 x8 x9 1) else (scutagelaw22_TrueupTells.j1 k x2 x7 x8 x9 x10)
def scutagelaw22_TrueupTells.j1 : Nat → Int → Int → Int → Int → Int → Option (Bool)
  | 0, _, _, _, _, _ => none
  | k + 1, x2, x7, x8, x9, x10 => if x10 = 0 then ((scutageref01_Money.f (wrap64 (x9 - x2))).bind fun t134 => (if t134 = true then (if x8 = x10 then (if x8 = 0 then (if x7 = (wrap64 (x9 - x2)) then ((scutagelaw22_wakes.f k).bind fun t135 => (some t135)) else (some false)) else (if x7 = 0 then ((scutagelaw22_wakes.f k).bind fun t136 => (some t136)) else (some false))) else (some false)) else (if x8 = 6 then (if x8 = 0 then (if x7 = (wrap64 (x9 - x2)) then ((scutagelaw22_wakes.f k).bind fun t137 => (some t137)) else (some false)) else (if x7 = 0 then ((scutagelaw22_wakes.f k).bind fun t138 => (some t138)) else (some false))) else (some false)))) else (if x8 = x10 then (if x8 = 0 then (if x7 = (wrap64 (x9 - x2)) then ((scutagelaw22_wakes.f k).bind fun t139 => (some t139)) else (some false)) else (if x7 = 0 then ((scutagelaw22_wakes.f k).bind fun t140 => (some t140)) else (some false))) else (some false))
end
def scutagelaw22_TrueupTells.f (k : Nat) (a0 : Int) (a1 : Int) (a2 : Int) : Option (Bool) := (scutageplay_Amount.f a0).bind fun t126 => ((scutageplay_Rate.f a1).bind fun t127 => ((scutageplay_Amount.f a2).bind fun t128 => ((trueup_Of.f k t126 t127 t128).bind fun bt129 => ((scutageref09_Share.f k t126 t127).bind fun bt131 => (if bt131.2 = 0 then ((scutageref01_Money.f t128).bind fun t133 => (scutagelaw22_TrueupTells.j0 k t128 bt129.1 bt129.2 bt131.1 bt131.2 (!t133))) else (scutagelaw22_TrueupTells.j0 k t128 bt129.1 bt129.2 bt131.1 bt131.2 false))))))
theorem scutagelaw22_TrueupTells.mono_l : ∀ k, (∀ y0 y1 y2 y3 y4 y5, LeO (scutagelaw22_TrueupTells.j0 k y0 y1 y2 y3 y4 y5) (scutagelaw22_TrueupTells.j0 (k + 1) y0 y1 y2 y3 y4 y5)) ∧ (∀ y0 y1 y2 y3 y4, LeO (scutagelaw22_TrueupTells.j1 k y0 y1 y2 y3 y4) (scutagelaw22_TrueupTells.j1 (k + 1) y0 y1 y2 y3 y4))
  | 0 => ⟨fun _ _ _ _ _ _ r h => by simp [scutagelaw22_TrueupTells.j0] at h, fun _ _ _ _ _ r h => by simp [scutagelaw22_TrueupTells.j1] at h⟩
  | k + 1 => by
    obtain ⟨ih0, ih1⟩ := scutagelaw22_TrueupTells.mono_l k
    refine ⟨?_, ?_⟩
    · intro y0 y1 y2 y3 y4 y5
      unfold scutagelaw22_TrueupTells.j0
      repeat' first
      | (with_reducible exact ih0 _ _ _ _ _ _)
      | (with_reducible exact ih1 _ _ _ _ _)
      | (with_reducible exact scutagelaw22_wakes.mono _)
      | (with_reducible exact scutageref09_Share.mono _ _ _)
      | (with_reducible exact trueup_Of.mono _ _ _ _)
      | (with_reducible exact LeO.refl _)
      | (with_reducible exact LeO.none _)
      | (with_reducible refine LeO.ite ?_ ?_)
      | (with_reducible refine LeO.bind ?_ (fun _ => ?_))
      | exact ih0 _ _ _ _ _ _
      | exact ih1 _ _ _ _ _
      | exact scutagelaw22_wakes.mono _
      | exact scutageref09_Share.mono _ _ _
      | exact trueup_Of.mono _ _ _ _
      | exact LeO.none _
      | refine LeO.ite ?_ ?_
      | refine LeO.bind ?_ (fun _ => ?_)
    · intro y0 y1 y2 y3 y4
      unfold scutagelaw22_TrueupTells.j1
      repeat' first
      | (with_reducible exact ih0 _ _ _ _ _ _)
      | (with_reducible exact ih1 _ _ _ _ _)
      | (with_reducible exact scutagelaw22_wakes.mono _)
      | (with_reducible exact scutageref09_Share.mono _ _ _)
      | (with_reducible exact trueup_Of.mono _ _ _ _)
      | (with_reducible exact LeO.refl _)
      | (with_reducible exact LeO.none _)
      | (with_reducible refine LeO.ite ?_ ?_)
      | (with_reducible refine LeO.bind ?_ (fun _ => ?_))
      | exact ih0 _ _ _ _ _ _
      | exact ih1 _ _ _ _ _
      | exact scutagelaw22_wakes.mono _
      | exact scutageref09_Share.mono _ _ _
      | exact trueup_Of.mono _ _ _ _
      | exact LeO.none _
      | refine LeO.ite ?_ ?_
      | refine LeO.bind ?_ (fun _ => ?_)
theorem scutagelaw22_TrueupTells.mono : ∀ a0 a1 a2 k, LeO (scutagelaw22_TrueupTells.f k a0 a1 a2) (scutagelaw22_TrueupTells.f (k + 1) a0 a1 a2) := by
  intro a0 a1 a2 k
  obtain ⟨ih0, ih1⟩ := scutagelaw22_TrueupTells.mono_l k
  unfold scutagelaw22_TrueupTells.f
  repeat' first
      | (with_reducible exact ih0 _ _ _ _ _ _)
      | (with_reducible exact ih1 _ _ _ _ _)
      | (with_reducible exact scutagelaw22_wakes.mono _)
      | (with_reducible exact scutageref09_Share.mono _ _ _)
      | (with_reducible exact trueup_Of.mono _ _ _ _)
      | (with_reducible exact LeO.refl _)
      | (with_reducible exact LeO.none _)
      | (with_reducible refine LeO.ite ?_ ?_)
      | (with_reducible refine LeO.bind ?_ (fun _ => ?_))
      | exact ih0 _ _ _ _ _ _
      | exact ih1 _ _ _ _ _
      | exact scutagelaw22_wakes.mono _
      | exact scutageref09_Share.mono _ _ _
      | exact trueup_Of.mono _ _ _ _
      | exact LeO.none _
      | refine LeO.ite ?_ ?_
      | refine LeO.bind ?_ (fun _ => ?_)
set_option maxHeartbeats 8000000 in
set_option maxRecDepth 100000 in
theorem scutagelaw22_TrueupTells.calls (k : Nat) (a0 : Int) (a1 : Int) (a2 : Int) (r : Bool) (w : World) (h : scutagelaw22_TrueupTells.f k a0 a1 a2 = some r) :
    Calls Try.prog 8 #[.int .i64 a0, .int .i64 a1, .int .i64 a2] w fun e w' => e = .returned (.bool r) ∧ Below w.heap.size w w' := by
  have HB := Aside0.mk (Below.refl w.heap.size w)
  have H : ((scutageplay_Amount.f a0).bind fun t126 => ((scutageplay_Rate.f a1).bind fun t127 => ((scutageplay_Amount.f a2).bind fun t128 => ((trueup_Of.f k t126 t127 t128).bind fun bt129 => ((scutageref09_Share.f k t126 t127).bind fun bt131 => (if bt131.2 = 0 then ((scutageref01_Money.f t128).bind fun t133 => (scutagelaw22_TrueupTells.j0 k t128 bt129.1 bt129.2 bt131.1 bt131.2 (!t133))) else (scutagelaw22_TrueupTells.j0 k t128 bt129.1 bt129.2 bt131.1 bt131.2 false))))))) = some r := h
  clear h
  replace H := Option.bind_eq_some_iff.mp H
  obtain ⟨t126, A40, H⟩ := H
  replace H : ((scutageplay_Rate.f a1).bind fun t127 => ((scutageplay_Amount.f a2).bind fun t128 => ((trueup_Of.f k t126 t127 t128).bind fun bt129 => ((scutageref09_Share.f k t126 t127).bind fun bt131 => (if bt131.2 = 0 then ((scutageref01_Money.f t128).bind fun t133 => (scutagelaw22_TrueupTells.j0 k t128 bt129.1 bt129.2 bt131.1 bt131.2 (!t133))) else (scutagelaw22_TrueupTells.j0 k t128 bt129.1 bt129.2 bt131.1 bt131.2 false)))))) = some r := H
  have A4 := Aside0.mk A40
  clear A40
  replace H := Option.bind_eq_some_iff.mp H
  obtain ⟨t127, A50, H⟩ := H
  replace H : ((scutageplay_Amount.f a2).bind fun t128 => ((trueup_Of.f k t126 t127 t128).bind fun bt129 => ((scutageref09_Share.f k t126 t127).bind fun bt131 => (if bt131.2 = 0 then ((scutageref01_Money.f t128).bind fun t133 => (scutagelaw22_TrueupTells.j0 k t128 bt129.1 bt129.2 bt131.1 bt131.2 (!t133))) else (scutagelaw22_TrueupTells.j0 k t128 bt129.1 bt129.2 bt131.1 bt131.2 false))))) = some r := H
  have A5 := Aside0.mk A50
  clear A50
  replace H := Option.bind_eq_some_iff.mp H
  obtain ⟨t128, A60, H⟩ := H
  replace H : ((trueup_Of.f k t126 t127 t128).bind fun bt129 => ((scutageref09_Share.f k t126 t127).bind fun bt131 => (if bt131.2 = 0 then ((scutageref01_Money.f t128).bind fun t133 => (scutagelaw22_TrueupTells.j0 k t128 bt129.1 bt129.2 bt131.1 bt131.2 (!t133))) else (scutagelaw22_TrueupTells.j0 k t128 bt129.1 bt129.2 bt131.1 bt131.2 false)))) = some r := H
  have A6 := Aside0.mk A60
  clear A60
  replace H := Option.bind_eq_some_iff.mp H
  obtain ⟨⟨t129, t130⟩, A70, H⟩ := H
  replace H : ((scutageref09_Share.f k t126 t127).bind fun bt131 => (if bt131.2 = 0 then ((scutageref01_Money.f t128).bind fun t133 => (scutagelaw22_TrueupTells.j0 k t128 t129 t130 bt131.1 bt131.2 (!t133))) else (scutagelaw22_TrueupTells.j0 k t128 t129 t130 bt131.1 bt131.2 false))) = some r := H
  have A7 := Aside0.mk A70
  clear A70
  replace H := Option.bind_eq_some_iff.mp H
  obtain ⟨⟨t131, t132⟩, A80, H⟩ := H
  replace H : (if t132 = 0 then ((scutageref01_Money.f t128).bind fun t133 => (scutagelaw22_TrueupTells.j0 k t128 t129 t130 t131 t132 (!t133))) else (scutagelaw22_TrueupTells.j0 k t128 t129 t130 t131 t132 false)) = some r := H
  have A8 := Aside0.mk A80
  clear A80
  have HC9 := Aside0.mk H
  clear H
  go_enter Try.func8, Try.ntmps8
  go_upto_region 4 with (first | ((with_reducible refine gate_callee (f := 19) rfl ?_); refine goesL_ (some 12) rfl rfl Try.func19 (by kernel_rfl) rfl #[.int .i64 a0] rfl (by (try simp only [List.map_toArray, List.map_cons, List.map_nil]); first | done | rfl | (simp only [List.length_drop, List.length_take]; rfl)) ?_; (with_reducible refine (scutageplay_Amount.calls a0 t126 _ A4.out).mono ?_); rintro e w' ⟨rfl, ⟨nd, rfl⟩⟩; refine ⟨_, rfl, ?_⟩) | ((with_reducible refine gate_callee (f := 20) rfl ?_); refine goesL_ (some 14) rfl rfl Try.func20 (by kernel_rfl) rfl #[.int .i64 a1] rfl (by (try simp only [List.map_toArray, List.map_cons, List.map_nil]); first | done | rfl | (simp only [List.length_drop, List.length_take]; rfl)) ?_; (with_reducible refine (scutageplay_Rate.calls a1 t127 _ A5.out).mono ?_); rintro e w10 ⟨rfl, hb⟩; refine ⟨_, rfl, ?_⟩; have n0_ := Aside0.mk (below_step (by repeat (first | (with_reducible first | exact HB.out | apply below_alloc | apply pw_below_drewN | apply below_drew1) | exact HB.out)) hb); clear HB; have HB := n0_; clear n0_; (try clear hb); (try clear hb2); (try clear hk); (try clear hi)) | ((with_reducible refine gate_callee (f := 19) rfl ?_); refine goesL_ (some 16) rfl rfl Try.func19 (by kernel_rfl) rfl #[.int .i64 a2] rfl (by (try simp only [List.map_toArray, List.map_cons, List.map_nil]); first | done | rfl | (simp only [List.length_drop, List.length_take]; rfl)) ?_; (with_reducible refine (scutageplay_Amount.calls a2 t128 _ A6.out).mono ?_); rintro e w' ⟨rfl, ⟨nd, rfl⟩⟩; refine ⟨_, rfl, ?_⟩) | ((with_reducible refine gate_callee (f := 22) rfl ?_); refine goesL_ (some 21) rfl rfl Try.func22 (by kernel_rfl) rfl #[.int .i64 t126, .int .i64 t127, .int .i64 t128] rfl (by (try simp only [List.map_toArray, List.map_cons, List.map_nil]); first | done | rfl | (simp only [List.length_drop, List.length_take]; rfl)) ?_; (with_reducible refine (trueup_Of.calls k t126 t127 t128 t129 t130 _ A7.out).mono ?_); rintro e w' ⟨rfl, ⟨nd, rfl⟩⟩; refine ⟨_, rfl, ?_⟩) | ((with_reducible refine gate_callee (f := 21) rfl ?_); refine goesL_ (some 27) rfl rfl Try.func21 (by kernel_rfl) rfl #[.int .i64 t126, .int .i64 t127] rfl (by (try simp only [List.map_toArray, List.map_cons, List.map_nil]); first | done | rfl | (simp only [List.length_drop, List.length_take]; rfl)) ?_; (with_reducible refine (scutageref09_Share.calls k t126 t127 t131 t132 _ A8.out).mono ?_); rintro e w' ⟨rfl, ⟨nd, rfl⟩⟩; refine ⟨_, rfl, ?_⟩))
  (try simp only [Act.put, List.setIfInBounds_toArray, List.set_cons_zero, List.set_cons_succ])
  go_cut [36] (fun v36 wc => ∃ (kq : Nat) (x36_8 : Bool), v36 = .bool x36_8 ∧ Aside0 (scutagelaw22_TrueupTells.j0 kq t128 t129 t130 t131 t132 x36_8 = some r) ∧ Aside0 (kq ≤ k) ∧ Aside0 (Below w.heap.size w wc))
  case first =>
    have H := HC9.out
    clear HC9
    by_cases c11 : t132 = 0
    · rw [if_pos c11] at H
      have c11b0 : (t132 == 0) = true := beq_iff_eq.mpr c11
      have c11b1 : (t132 != 0) = false := bne_eq_false_iff_eq.mpr c11
      clear c11
      (first | rw [c11b0] | (simp only [i64_w, i32_w]; rw [c11b0]) | skip)
      replace H := Option.bind_eq_some_iff.mp H
      obtain ⟨t133, A120, H⟩ := H
      replace H : (scutagelaw22_TrueupTells.j0 k t128 t129 t130 t131 t132 (!t133)) = some r := H
      have A12 := Aside0.mk A120
      clear A120
      have H' := Aside0.mk H
      clear H
      go_wp2_with (first | (go_at_call 24; (with_reducible refine (scutageref01_Money.calls t128 t133 _ A12.out).mono ?_); rintro e w' ⟨rfl, ⟨nd, rfl⟩⟩))
      go_meet
      case rel => exact ⟨_, (!t133), (by first | rfl | (simp; done) | (simp [*]; done)), H', ⟨by first | omega | exact Nat.le_refl _⟩, ⟨by repeat (first | (with_reducible first | exact HB.out | apply below_alloc | apply pw_below_drewN | apply below_drew1) | exact HB.out)⟩⟩
    · rw [if_neg c11] at H
      have c11b0 : (t132 == 0) = false := beq_eq_false_iff_ne.mpr c11
      have c11b1 : (t132 != 0) = true := bne_iff_ne.mpr c11
      (first | rw [c11b0] | (simp only [i64_w, i32_w]; rw [c11b0]) | skip)
      have H' := Aside0.mk H
      clear H
      go_wp2
      go_meet
      case rel => exact ⟨_, (false), (by first | rfl | (simp; done) | (simp [*]; done)), H', ⟨by first | omega | exact Nat.le_refl _⟩, ⟨by repeat (first | (with_reducible first | exact HB.out | apply below_alloc | apply pw_below_drewN | apply below_drew1) | exact HB.out)⟩⟩
  case rest =>
    clear HC9
    try clear c1
    try clear c2
    try clear p2
    try clear c8
    try clear c11
    try clear c11b0
    try clear c11b1
    obtain ⟨kq, x36_8, rfl, HA, HJ8, HB⟩ := hcut
    cases kq with
    | zero => exact absurd HA.out (by simp [scutagelaw22_TrueupTells.j0])
    | succ kj8 =>
      have H := HA.out
      clear HA
      simp only [scutagelaw22_TrueupTells.j0] at H
      have HC13 := Aside0.mk H
      clear H
      go_upto_if 36 with (fail)
      go_cut [10] (fun v10 wc => ∃ (kq : Nat) (x10_12 : Int), v10 = .int .i64 x10_12 ∧ Aside0 (scutagelaw22_TrueupTells.j1 kq t128 t129 t130 t131 x10_12 = some r) ∧ Aside0 (kq ≤ kj8) ∧ Aside0 (Below w.heap.size w wc))
      case first =>
        have H := HC13.out
        clear HC13
        by_cases c14 : x36_8 = true
        · subst c14
          have H1 : (scutagelaw22_TrueupTells.j1 kj8 t128 t129 t130 t131 1) = some r := by rw [if_pos rfl] at H; exact H
          clear H
          have H := H1
          clear H1
          have H' := Aside0.mk H
          clear H
          go_wp2
          go_meet
          case rel => exact ⟨_, (1), (by first | rfl | (simp; done) | (simp [*]; done)), H', ⟨by have := HJ8.out; first | omega | exact Nat.le_refl _⟩, ⟨by repeat (first | (with_reducible first | exact HB.out | apply below_alloc | apply pw_below_drewN | apply below_drew1) | exact HB.out)⟩⟩
        · replace c14 := Bool.eq_false_iff.mpr c14
          subst c14
          have H1 : (scutagelaw22_TrueupTells.j1 kj8 t128 t129 t130 t131 t132) = some r := by rw [if_neg (show ¬ (false = true) by decide)] at H; exact H
          clear H
          have H := H1
          clear H1
          have H' := Aside0.mk H
          clear H
          go_wp2
          go_meet
          case rel => exact ⟨_, (t132), (by first | rfl | (simp; done) | (simp [*]; done)), H', ⟨by have := HJ8.out; first | omega | exact Nat.le_refl _⟩, ⟨by repeat (first | (with_reducible first | exact HB.out | apply below_alloc | apply pw_below_drewN | apply below_drew1) | exact HB.out)⟩⟩
      case rest =>
        clear HC13
        try clear c1
        try clear c2
        try clear p2
        try clear c8
        try clear c11
        try clear c11b0
        try clear c11b1
        try clear c14
        try clear p2
        obtain ⟨kq, x10_12, rfl, HA, HJ12, HB⟩ := hcut
        cases kq with
        | zero => exact absurd HA.out (by simp [scutagelaw22_TrueupTells.j1])
        | succ kj12 =>
          have H := HA.out
          clear HA
          simp only [scutagelaw22_TrueupTells.j1] at H
          by_cases c15 : x10_12 = 0
          · rw [if_pos c15] at H
            have c15b0 : (x10_12 == 0) = true := beq_iff_eq.mpr c15
            have c15b1 : (x10_12 != 0) = false := bne_eq_false_iff_eq.mpr c15
            clear c15
            replace H := Option.bind_eq_some_iff.mp H
            obtain ⟨t134, A160, H⟩ := H
            replace H : (if t134 = true then (if t130 = x10_12 then (if t130 = 0 then (if t129 = (wrap64 (t131 - t128)) then ((scutagelaw22_wakes.f kj12).bind fun t135 => (some t135)) else (some false)) else (if t129 = 0 then ((scutagelaw22_wakes.f kj12).bind fun t136 => (some t136)) else (some false))) else (some false)) else (if t130 = 6 then (if t130 = 0 then (if t129 = (wrap64 (t131 - t128)) then ((scutagelaw22_wakes.f kj12).bind fun t137 => (some t137)) else (some false)) else (if t129 = 0 then ((scutagelaw22_wakes.f kj12).bind fun t138 => (some t138)) else (some false))) else (some false))) = some r := H
            have A16 := Aside0.mk A160
            clear A160
            by_cases c17 : t134 = true
            · subst c17
              have H1 : (if t130 = x10_12 then (if t130 = 0 then (if t129 = (wrap64 (t131 - t128)) then ((scutagelaw22_wakes.f kj12).bind fun t135 => (some t135)) else (some false)) else (if t129 = 0 then ((scutagelaw22_wakes.f kj12).bind fun t136 => (some t136)) else (some false))) else (some false)) = some r := by rw [if_pos rfl] at H; exact H
              clear H
              have H := H1
              clear H1
              by_cases c18 : t130 = x10_12
              · rw [if_pos c18] at H
                have c18b0 : (t130 == x10_12) = true := beq_iff_eq.mpr c18
                have c18b1 : (t130 != x10_12) = false := bne_eq_false_iff_eq.mpr c18
                clear c18
                by_cases c19 : t130 = 0
                · rw [if_pos c19] at H
                  have c19b0 : (t130 == 0) = true := beq_iff_eq.mpr c19
                  have c19b1 : (t130 != 0) = false := bne_eq_false_iff_eq.mpr c19
                  clear c19
                  by_cases c20 : t129 = (wrap64 (t131 - t128))
                  · rw [if_pos c20] at H
                    have c20b0 : (t129 == (wrap64 (t131 - t128))) = true := beq_iff_eq.mpr c20
                    have c20b1 : (t129 != (wrap64 (t131 - t128))) = false := bne_eq_false_iff_eq.mpr c20
                    clear c20
                    replace H := Option.bind_eq_some_iff.mp H
                    obtain ⟨t135, A210, H⟩ := H
                    replace H : (some t135) = some r := H
                    have A21 := Aside0.mk A210
                    clear A210
                    obtain rfl := Option.some.inj H
                    go_wp2_with (first | (go_at_call 24; (with_reducible refine (scutageref01_Money.calls (wrap64 (t131 - t128)) true _ A16.out).mono ?_); rintro e w' ⟨rfl, ⟨nd, rfl⟩⟩) | (go_at_call 23; (with_reducible refine (scutagelaw22_wakes.calls kj12  t135 _ A21.out).mono ?_); rintro e w' ⟨rfl, ⟨nd, rfl⟩⟩))
                    go_ret
                    exact ⟨by first | rfl | (simp [errW_none, errW_some] <;> rfl) | (simp [*, errW_none, errW_some] <;> rfl), by repeat (first | (with_reducible first | exact HB.out | apply below_alloc | apply pw_below_drewN | apply below_drew1) | exact HB.out)⟩
                  · rw [if_neg c20] at H
                    have c20b0 : (t129 == (wrap64 (t131 - t128))) = false := beq_eq_false_iff_ne.mpr c20
                    have c20b1 : (t129 != (wrap64 (t131 - t128))) = true := bne_iff_ne.mpr c20
                    obtain rfl := Option.some.inj H
                    go_wp2_with (first | (go_at_call 24; (with_reducible refine (scutageref01_Money.calls (wrap64 (t131 - t128)) true _ A16.out).mono ?_); rintro e w' ⟨rfl, ⟨nd, rfl⟩⟩))
                    go_ret
                    exact ⟨by first | rfl | (simp [errW_none, errW_some] <;> rfl) | (simp [*, errW_none, errW_some] <;> rfl), by repeat (first | (with_reducible first | exact HB.out | apply below_alloc | apply pw_below_drewN | apply below_drew1) | exact HB.out)⟩
                · rw [if_neg c19] at H
                  have c19b0 : (t130 == 0) = false := beq_eq_false_iff_ne.mpr c19
                  have c19b1 : (t130 != 0) = true := bne_iff_ne.mpr c19
                  by_cases c22 : t129 = 0
                  · rw [if_pos c22] at H
                    have c22b0 : (t129 == 0) = true := beq_iff_eq.mpr c22
                    have c22b1 : (t129 != 0) = false := bne_eq_false_iff_eq.mpr c22
                    clear c22
                    replace H := Option.bind_eq_some_iff.mp H
                    obtain ⟨t136, A230, H⟩ := H
                    replace H : (some t136) = some r := H
                    have A23 := Aside0.mk A230
                    clear A230
                    obtain rfl := Option.some.inj H
                    go_wp2_with (first | (go_at_call 24; (with_reducible refine (scutageref01_Money.calls (wrap64 (t131 - t128)) true _ A16.out).mono ?_); rintro e w' ⟨rfl, ⟨nd, rfl⟩⟩) | (go_at_call 23; (with_reducible refine (scutagelaw22_wakes.calls kj12  t136 _ A23.out).mono ?_); rintro e w' ⟨rfl, ⟨nd, rfl⟩⟩))
                    go_ret
                    exact ⟨by first | rfl | (simp [errW_none, errW_some] <;> rfl) | (simp [*, errW_none, errW_some] <;> rfl), by repeat (first | (with_reducible first | exact HB.out | apply below_alloc | apply pw_below_drewN | apply below_drew1) | exact HB.out)⟩
                  · rw [if_neg c22] at H
                    have c22b0 : (t129 == 0) = false := beq_eq_false_iff_ne.mpr c22
                    have c22b1 : (t129 != 0) = true := bne_iff_ne.mpr c22
                    obtain rfl := Option.some.inj H
                    go_wp2_with (first | (go_at_call 24; (with_reducible refine (scutageref01_Money.calls (wrap64 (t131 - t128)) true _ A16.out).mono ?_); rintro e w' ⟨rfl, ⟨nd, rfl⟩⟩))
                    go_ret
                    exact ⟨by first | rfl | (simp [errW_none, errW_some] <;> rfl) | (simp [*, errW_none, errW_some] <;> rfl), by repeat (first | (with_reducible first | exact HB.out | apply below_alloc | apply pw_below_drewN | apply below_drew1) | exact HB.out)⟩
              · rw [if_neg c18] at H
                have c18b0 : (t130 == x10_12) = false := beq_eq_false_iff_ne.mpr c18
                have c18b1 : (t130 != x10_12) = true := bne_iff_ne.mpr c18
                obtain rfl := Option.some.inj H
                go_wp2_with (first | (go_at_call 24; (with_reducible refine (scutageref01_Money.calls (wrap64 (t131 - t128)) true _ A16.out).mono ?_); rintro e w' ⟨rfl, ⟨nd, rfl⟩⟩))
                go_ret
                exact ⟨by first | rfl | (simp [errW_none, errW_some] <;> rfl) | (simp [*, errW_none, errW_some] <;> rfl), by repeat (first | (with_reducible first | exact HB.out | apply below_alloc | apply pw_below_drewN | apply below_drew1) | exact HB.out)⟩
            · replace c17 := Bool.eq_false_iff.mpr c17
              subst c17
              have H1 : (if t130 = 6 then (if t130 = 0 then (if t129 = (wrap64 (t131 - t128)) then ((scutagelaw22_wakes.f kj12).bind fun t137 => (some t137)) else (some false)) else (if t129 = 0 then ((scutagelaw22_wakes.f kj12).bind fun t138 => (some t138)) else (some false))) else (some false)) = some r := by rw [if_neg (show ¬ (false = true) by decide)] at H; exact H
              clear H
              have H := H1
              clear H1
              by_cases c24 : t130 = 6
              · rw [if_pos c24] at H
                have c24b0 : (t130 == 6) = true := beq_iff_eq.mpr c24
                have c24b1 : (t130 != 6) = false := bne_eq_false_iff_eq.mpr c24
                clear c24
                by_cases c25 : t130 = 0
                · rw [if_pos c25] at H
                  have c25b0 : (t130 == 0) = true := beq_iff_eq.mpr c25
                  have c25b1 : (t130 != 0) = false := bne_eq_false_iff_eq.mpr c25
                  clear c25
                  by_cases c26 : t129 = (wrap64 (t131 - t128))
                  · rw [if_pos c26] at H
                    have c26b0 : (t129 == (wrap64 (t131 - t128))) = true := beq_iff_eq.mpr c26
                    have c26b1 : (t129 != (wrap64 (t131 - t128))) = false := bne_eq_false_iff_eq.mpr c26
                    clear c26
                    replace H := Option.bind_eq_some_iff.mp H
                    obtain ⟨t137, A270, H⟩ := H
                    replace H : (some t137) = some r := H
                    have A27 := Aside0.mk A270
                    clear A270
                    obtain rfl := Option.some.inj H
                    go_wp2_with (first | (go_at_call 24; (with_reducible refine (scutageref01_Money.calls (wrap64 (t131 - t128)) false _ A16.out).mono ?_); rintro e w' ⟨rfl, ⟨nd, rfl⟩⟩) | (go_at_call 23; (with_reducible refine (scutagelaw22_wakes.calls kj12  t137 _ A27.out).mono ?_); rintro e w' ⟨rfl, ⟨nd, rfl⟩⟩))
                    go_ret
                    exact ⟨by first | rfl | (simp [errW_none, errW_some] <;> rfl) | (simp [*, errW_none, errW_some] <;> rfl), by repeat (first | (with_reducible first | exact HB.out | apply below_alloc | apply pw_below_drewN | apply below_drew1) | exact HB.out)⟩
                  · rw [if_neg c26] at H
                    have c26b0 : (t129 == (wrap64 (t131 - t128))) = false := beq_eq_false_iff_ne.mpr c26
                    have c26b1 : (t129 != (wrap64 (t131 - t128))) = true := bne_iff_ne.mpr c26
                    obtain rfl := Option.some.inj H
                    go_wp2_with (first | (go_at_call 24; (with_reducible refine (scutageref01_Money.calls (wrap64 (t131 - t128)) false _ A16.out).mono ?_); rintro e w' ⟨rfl, ⟨nd, rfl⟩⟩))
                    go_ret
                    exact ⟨by first | rfl | (simp [errW_none, errW_some] <;> rfl) | (simp [*, errW_none, errW_some] <;> rfl), by repeat (first | (with_reducible first | exact HB.out | apply below_alloc | apply pw_below_drewN | apply below_drew1) | exact HB.out)⟩
                · rw [if_neg c25] at H
                  have c25b0 : (t130 == 0) = false := beq_eq_false_iff_ne.mpr c25
                  have c25b1 : (t130 != 0) = true := bne_iff_ne.mpr c25
                  by_cases c28 : t129 = 0
                  · rw [if_pos c28] at H
                    have c28b0 : (t129 == 0) = true := beq_iff_eq.mpr c28
                    have c28b1 : (t129 != 0) = false := bne_eq_false_iff_eq.mpr c28
                    clear c28
                    replace H := Option.bind_eq_some_iff.mp H
                    obtain ⟨t138, A290, H⟩ := H
                    replace H : (some t138) = some r := H
                    have A29 := Aside0.mk A290
                    clear A290
                    obtain rfl := Option.some.inj H
                    go_wp2_with (first | (go_at_call 24; (with_reducible refine (scutageref01_Money.calls (wrap64 (t131 - t128)) false _ A16.out).mono ?_); rintro e w' ⟨rfl, ⟨nd, rfl⟩⟩) | (go_at_call 23; (with_reducible refine (scutagelaw22_wakes.calls kj12  t138 _ A29.out).mono ?_); rintro e w' ⟨rfl, ⟨nd, rfl⟩⟩))
                    go_ret
                    exact ⟨by first | rfl | (simp [errW_none, errW_some] <;> rfl) | (simp [*, errW_none, errW_some] <;> rfl), by repeat (first | (with_reducible first | exact HB.out | apply below_alloc | apply pw_below_drewN | apply below_drew1) | exact HB.out)⟩
                  · rw [if_neg c28] at H
                    have c28b0 : (t129 == 0) = false := beq_eq_false_iff_ne.mpr c28
                    have c28b1 : (t129 != 0) = true := bne_iff_ne.mpr c28
                    obtain rfl := Option.some.inj H
                    go_wp2_with (first | (go_at_call 24; (with_reducible refine (scutageref01_Money.calls (wrap64 (t131 - t128)) false _ A16.out).mono ?_); rintro e w' ⟨rfl, ⟨nd, rfl⟩⟩))
                    go_ret
                    exact ⟨by first | rfl | (simp [errW_none, errW_some] <;> rfl) | (simp [*, errW_none, errW_some] <;> rfl), by repeat (first | (with_reducible first | exact HB.out | apply below_alloc | apply pw_below_drewN | apply below_drew1) | exact HB.out)⟩
              · rw [if_neg c24] at H
                have c24b0 : (t130 == 6) = false := beq_eq_false_iff_ne.mpr c24
                have c24b1 : (t130 != 6) = true := bne_iff_ne.mpr c24
                obtain rfl := Option.some.inj H
                go_wp2_with (first | (go_at_call 24; (with_reducible refine (scutageref01_Money.calls (wrap64 (t131 - t128)) false _ A16.out).mono ?_); rintro e w' ⟨rfl, ⟨nd, rfl⟩⟩))
                go_ret
                exact ⟨by first | rfl | (simp [errW_none, errW_some] <;> rfl) | (simp [*, errW_none, errW_some] <;> rfl), by repeat (first | (with_reducible first | exact HB.out | apply below_alloc | apply pw_below_drewN | apply below_drew1) | exact HB.out)⟩
          · rw [if_neg c15] at H
            have c15b0 : (x10_12 == 0) = false := beq_eq_false_iff_ne.mpr c15
            have c15b1 : (x10_12 != 0) = true := bne_iff_ne.mpr c15
            by_cases c30 : t130 = x10_12
            · rw [if_pos c30] at H
              have c30b0 : (t130 == x10_12) = true := beq_iff_eq.mpr c30
              have c30b1 : (t130 != x10_12) = false := bne_eq_false_iff_eq.mpr c30
              clear c30
              by_cases c31 : t130 = 0
              · rw [if_pos c31] at H
                have c31b0 : (t130 == 0) = true := beq_iff_eq.mpr c31
                have c31b1 : (t130 != 0) = false := bne_eq_false_iff_eq.mpr c31
                clear c31
                by_cases c32 : t129 = (wrap64 (t131 - t128))
                · rw [if_pos c32] at H
                  have c32b0 : (t129 == (wrap64 (t131 - t128))) = true := beq_iff_eq.mpr c32
                  have c32b1 : (t129 != (wrap64 (t131 - t128))) = false := bne_eq_false_iff_eq.mpr c32
                  clear c32
                  replace H := Option.bind_eq_some_iff.mp H
                  obtain ⟨t139, A330, H⟩ := H
                  replace H : (some t139) = some r := H
                  have A33 := Aside0.mk A330
                  clear A330
                  obtain rfl := Option.some.inj H
                  go_wp2_with (first | (go_at_call 23; (with_reducible refine (scutagelaw22_wakes.calls kj12  t139 _ A33.out).mono ?_); rintro e w' ⟨rfl, ⟨nd, rfl⟩⟩))
                  go_ret
                  exact ⟨by first | rfl | (simp [errW_none, errW_some] <;> rfl) | (simp [*, errW_none, errW_some] <;> rfl), by repeat (first | (with_reducible first | exact HB.out | apply below_alloc | apply pw_below_drewN | apply below_drew1) | exact HB.out)⟩
                · rw [if_neg c32] at H
                  have c32b0 : (t129 == (wrap64 (t131 - t128))) = false := beq_eq_false_iff_ne.mpr c32
                  have c32b1 : (t129 != (wrap64 (t131 - t128))) = true := bne_iff_ne.mpr c32
                  obtain rfl := Option.some.inj H
                  go_wp2
                  go_ret
                  exact ⟨by first | rfl | (simp [errW_none, errW_some] <;> rfl) | (simp [*, errW_none, errW_some] <;> rfl), by repeat (first | (with_reducible first | exact HB.out | apply below_alloc | apply pw_below_drewN | apply below_drew1) | exact HB.out)⟩
              · rw [if_neg c31] at H
                have c31b0 : (t130 == 0) = false := beq_eq_false_iff_ne.mpr c31
                have c31b1 : (t130 != 0) = true := bne_iff_ne.mpr c31
                by_cases c34 : t129 = 0
                · rw [if_pos c34] at H
                  have c34b0 : (t129 == 0) = true := beq_iff_eq.mpr c34
                  have c34b1 : (t129 != 0) = false := bne_eq_false_iff_eq.mpr c34
                  clear c34
                  replace H := Option.bind_eq_some_iff.mp H
                  obtain ⟨t140, A350, H⟩ := H
                  replace H : (some t140) = some r := H
                  have A35 := Aside0.mk A350
                  clear A350
                  obtain rfl := Option.some.inj H
                  go_wp2_with (first | (go_at_call 23; (with_reducible refine (scutagelaw22_wakes.calls kj12  t140 _ A35.out).mono ?_); rintro e w' ⟨rfl, ⟨nd, rfl⟩⟩))
                  go_ret
                  exact ⟨by first | rfl | (simp [errW_none, errW_some] <;> rfl) | (simp [*, errW_none, errW_some] <;> rfl), by repeat (first | (with_reducible first | exact HB.out | apply below_alloc | apply pw_below_drewN | apply below_drew1) | exact HB.out)⟩
                · rw [if_neg c34] at H
                  have c34b0 : (t129 == 0) = false := beq_eq_false_iff_ne.mpr c34
                  have c34b1 : (t129 != 0) = true := bne_iff_ne.mpr c34
                  obtain rfl := Option.some.inj H
                  go_wp2
                  go_ret
                  exact ⟨by first | rfl | (simp [errW_none, errW_some] <;> rfl) | (simp [*, errW_none, errW_some] <;> rfl), by repeat (first | (with_reducible first | exact HB.out | apply below_alloc | apply pw_below_drewN | apply below_drew1) | exact HB.out)⟩
            · rw [if_neg c30] at H
              have c30b0 : (t130 == x10_12) = false := beq_eq_false_iff_ne.mpr c30
              have c30b1 : (t130 != x10_12) = true := bne_iff_ne.mpr c30
              obtain rfl := Option.some.inj H
              go_wp2
              go_ret
              exact ⟨by first | rfl | (simp [errW_none, errW_some] <;> rfl) | (simp [*, errW_none, errW_some] <;> rfl), by repeat (first | (with_reducible first | exact HB.out | apply below_alloc | apply pw_below_drewN | apply below_drew1) | exact HB.out)⟩

/-- THE ONE PURE STATEMENT of scutagelaw22_TrueupTells: yours. -/
def scutagelaw22_TrueupTells.Pure : Prop := ∀ (a0 : Int) (a1 : Int) (a2 : Int), (Lit.int .i64 a0).wf = true → (Lit.int .i64 a1).wf = true → (Lit.int .i64 a2).wf = true → ∃ k, scutagelaw22_TrueupTells.f k a0 a1 a2 = some true
theorem scutagelaw22_TrueupTells.walk (P : scutagelaw22_TrueupTells.Pure) (a0 : Int) (a1 : Int) (a2 : Int) (w : World) (w0 : (Lit.int .i64 a0).wf = true) (w1 : (Lit.int .i64 a1).wf = true) (w2 : (Lit.int .i64 a2).wf = true) :
    Calls Try.prog 8 #[.int .i64 a0, .int .i64 a1, .int .i64 a2] w fun e w' => e = .returned (.bool true) ∧ Below w.heap.size w w' := by
  obtain ⟨k, h⟩ := P a0 a1 a2 w0 w1 w2
  refine (scutagelaw22_TrueupTells.calls k a0 a1 a2 true w h).mono ?_
  rintro e w' ⟨rfl, hd⟩
  exact ⟨rfl, hd⟩

end Go.Proofs.Ytbpagnnfieipcaa.PTrueupTells
