-- PRINTED BY print.sh 35421559b90ae4d0a3588c463048766b98c2df88dd9212a6774a882060cdf62d: not written by this session
import Derived.Test.YtalelfjjigfpeaaPBridgeTellsx0
import Derived.Test.YtalelfjjigfpeaaPBridgeTellsx2
namespace Go.Proofs.Ytalelfjjigfpeaa.PBridgeTells
open Go.RowKit Go.Proofs.YtalelfjjigfpeaaW.PrintWords Go.Proofs.YtalelfjjigfpeaaW.PrintLast Go.Proofs.YtalelfjjigfpeaaW.PrintMore
attribute [local go_sem] max2_int min2_int max_two min_two max_three min_three max_four min_four   -- for this text's walks alone
set_option linter.unusedVariables false
set_option linter.unusedSimpArgs false

/-! ### scutagelaw12_BridgeTells: function 12 -/
def scutagelaw12_BridgeTells.j0 : Nat → Int → Int → Int → Int → Bool → List (S41) → Bool → Option (Bool)
  | 0, _, _, _, _, _, _, _ => none
  | k + 1, x0, x1, x2, x7, x8, x11, x43 => if x43 = true then (some false) else (if x8 = true then ((api_Item.f k x11 (([(⟨1, x0⟩ : S41), (⟨2, x1⟩ : S41), (⟨3, wrap64 (-x2)⟩ : S41), (⟨4, x7⟩ : S41)] : List (S41)))).bind fun t140 => (if t140 = true then ((scutagelaw12_wakes.f k).bind fun t141 => (some t141)) else (some false))) else (if (x11.length : Int) = 0 then ((scutagelaw12_wakes.f k).bind fun t142 => (some t142)) else (some false)))
def scutagelaw12_BridgeTells.f (k : Nat) (a0 : Int) (a1 : Int) (a2 : Int) : Option (Bool) := (scutageplay_Amount.f a0).bind fun t127 => ((scutageplay_Amount.f a1).bind fun t128 => ((scutageplay_Amount.f a2).bind fun t129 => ((bridge_Income.f k t127 t128 t129).bind fun bt130 => ((scutageref09_Income.f t127 t128 t129).bind fun bt132 => ((bridge_Lines.f k t127 t128 t129).bind fun t134 => (if bt130.1 = bt132.1 then (scutagelaw12_BridgeTells.j0 k t127 t128 t129 bt130.1 bt130.2 t134 (bt130.2 != bt132.2)) else (scutagelaw12_BridgeTells.j0 k t127 t128 t129 bt130.1 bt130.2 t134 true)))))))
theorem scutagelaw12_BridgeTells.mono_l : ∀ k, (∀ y0 y1 y2 y3 y4 y5 y6, LeO (scutagelaw12_BridgeTells.j0 k y0 y1 y2 y3 y4 y5 y6) (scutagelaw12_BridgeTells.j0 (k + 1) y0 y1 y2 y3 y4 y5 y6))
  | 0 => fun _ _ _ _ _ _ _ r h => by simp [scutagelaw12_BridgeTells.j0] at h
  | k + 1 => by
    have ih0 := scutagelaw12_BridgeTells.mono_l k
    · intro y0 y1 y2 y3 y4 y5 y6
      unfold scutagelaw12_BridgeTells.j0
      repeat' first
      | (with_reducible exact ih0 _ _ _ _ _ _ _)
      | (with_reducible exact api_Item.mono _ _ _)
      | (with_reducible exact bridge_Income.mono _ _ _ _)
      | (with_reducible exact bridge_Lines.mono _ _ _ _)
      | (with_reducible exact scutagelaw12_wakes.mono _)
      | (with_reducible exact LeO.refl _)
      | (with_reducible exact LeO.none _)
      | (with_reducible refine LeO.ite ?_ ?_)
      | (with_reducible refine LeO.bind ?_ (fun _ => ?_))
      | exact ih0 _ _ _ _ _ _ _
      | exact api_Item.mono _ _ _
      | exact bridge_Income.mono _ _ _ _
      | exact bridge_Lines.mono _ _ _ _
      | exact scutagelaw12_wakes.mono _
      | exact LeO.none _
      | refine LeO.ite ?_ ?_
      | refine LeO.bind ?_ (fun _ => ?_)
theorem scutagelaw12_BridgeTells.mono : ∀ a0 a1 a2 k, LeO (scutagelaw12_BridgeTells.f k a0 a1 a2) (scutagelaw12_BridgeTells.f (k + 1) a0 a1 a2) := by
  intro a0 a1 a2 k
  have ih0 := scutagelaw12_BridgeTells.mono_l k
  unfold scutagelaw12_BridgeTells.f
  repeat' first
      | (with_reducible exact ih0 _ _ _ _ _ _ _)
      | (with_reducible exact api_Item.mono _ _ _)
      | (with_reducible exact bridge_Income.mono _ _ _ _)
      | (with_reducible exact bridge_Lines.mono _ _ _ _)
      | (with_reducible exact scutagelaw12_wakes.mono _)
      | (with_reducible exact LeO.refl _)
      | (with_reducible exact LeO.none _)
      | (with_reducible refine LeO.ite ?_ ?_)
      | (with_reducible refine LeO.bind ?_ (fun _ => ?_))
      | exact ih0 _ _ _ _ _ _ _
      | exact api_Item.mono _ _ _
      | exact bridge_Income.mono _ _ _ _
      | exact bridge_Lines.mono _ _ _ _
      | exact scutagelaw12_wakes.mono _
      | exact LeO.none _
      | refine LeO.ite ?_ ?_
      | refine LeO.bind ?_ (fun _ => ?_)
set_option maxHeartbeats 8000000 in
set_option maxRecDepth 100000 in
theorem scutagelaw12_BridgeTells.calls (k : Nat) (a0 : Int) (a1 : Int) (a2 : Int) (r : Bool) (w : World) (h : scutagelaw12_BridgeTells.f k a0 a1 a2 = some r) :
    Calls Try.prog 12 #[.int .i64 a0, .int .i64 a1, .int .i64 a2] w fun e w' => e = .returned (.bool r) ∧ Below w.heap.size w w' := by
  have hu41 := Try.underlying41
  have HB := Aside0.mk (Below.refl w.heap.size w)
  have H : ((scutageplay_Amount.f a0).bind fun t127 => ((scutageplay_Amount.f a1).bind fun t128 => ((scutageplay_Amount.f a2).bind fun t129 => ((bridge_Income.f k t127 t128 t129).bind fun bt130 => ((scutageref09_Income.f t127 t128 t129).bind fun bt132 => ((bridge_Lines.f k t127 t128 t129).bind fun t134 => (if bt130.1 = bt132.1 then (scutagelaw12_BridgeTells.j0 k t127 t128 t129 bt130.1 bt130.2 t134 (bt130.2 != bt132.2)) else (scutagelaw12_BridgeTells.j0 k t127 t128 t129 bt130.1 bt130.2 t134 true)))))))) = some r := h
  clear h
  replace H := Option.bind_eq_some_iff.mp H
  obtain ⟨t127, A40, H⟩ := H
  replace H : ((scutageplay_Amount.f a1).bind fun t128 => ((scutageplay_Amount.f a2).bind fun t129 => ((bridge_Income.f k t127 t128 t129).bind fun bt130 => ((scutageref09_Income.f t127 t128 t129).bind fun bt132 => ((bridge_Lines.f k t127 t128 t129).bind fun t134 => (if bt130.1 = bt132.1 then (scutagelaw12_BridgeTells.j0 k t127 t128 t129 bt130.1 bt130.2 t134 (bt130.2 != bt132.2)) else (scutagelaw12_BridgeTells.j0 k t127 t128 t129 bt130.1 bt130.2 t134 true))))))) = some r := H
  have A4 := Aside0.mk A40
  clear A40
  replace H := Option.bind_eq_some_iff.mp H
  obtain ⟨t128, A50, H⟩ := H
  replace H : ((scutageplay_Amount.f a2).bind fun t129 => ((bridge_Income.f k t127 t128 t129).bind fun bt130 => ((scutageref09_Income.f t127 t128 t129).bind fun bt132 => ((bridge_Lines.f k t127 t128 t129).bind fun t134 => (if bt130.1 = bt132.1 then (scutagelaw12_BridgeTells.j0 k t127 t128 t129 bt130.1 bt130.2 t134 (bt130.2 != bt132.2)) else (scutagelaw12_BridgeTells.j0 k t127 t128 t129 bt130.1 bt130.2 t134 true)))))) = some r := H
  have A5 := Aside0.mk A50
  clear A50
  replace H := Option.bind_eq_some_iff.mp H
  obtain ⟨t129, A60, H⟩ := H
  replace H : ((bridge_Income.f k t127 t128 t129).bind fun bt130 => ((scutageref09_Income.f t127 t128 t129).bind fun bt132 => ((bridge_Lines.f k t127 t128 t129).bind fun t134 => (if bt130.1 = bt132.1 then (scutagelaw12_BridgeTells.j0 k t127 t128 t129 bt130.1 bt130.2 t134 (bt130.2 != bt132.2)) else (scutagelaw12_BridgeTells.j0 k t127 t128 t129 bt130.1 bt130.2 t134 true))))) = some r := H
  have A6 := Aside0.mk A60
  clear A60
  replace H := Option.bind_eq_some_iff.mp H
  obtain ⟨⟨t130, t131⟩, A70, H⟩ := H
  replace H : ((scutageref09_Income.f t127 t128 t129).bind fun bt132 => ((bridge_Lines.f k t127 t128 t129).bind fun t134 => (if t130 = bt132.1 then (scutagelaw12_BridgeTells.j0 k t127 t128 t129 t130 t131 t134 (t131 != bt132.2)) else (scutagelaw12_BridgeTells.j0 k t127 t128 t129 t130 t131 t134 true)))) = some r := H
  have A7 := Aside0.mk A70
  clear A70
  replace H := Option.bind_eq_some_iff.mp H
  obtain ⟨⟨t132, t133⟩, A80, H⟩ := H
  replace H : ((bridge_Lines.f k t127 t128 t129).bind fun t134 => (if t130 = t132 then (scutagelaw12_BridgeTells.j0 k t127 t128 t129 t130 t131 t134 (t131 != t133)) else (scutagelaw12_BridgeTells.j0 k t127 t128 t129 t130 t131 t134 true))) = some r := H
  have A8 := Aside0.mk A80
  clear A80
  replace H := Option.bind_eq_some_iff.mp H
  obtain ⟨t134, A90, H⟩ := H
  replace H : (if t130 = t132 then (scutagelaw12_BridgeTells.j0 k t127 t128 t129 t130 t131 t134 (t131 != t133)) else (scutagelaw12_BridgeTells.j0 k t127 t128 t129 t130 t131 t134 true)) = some r := H
  have A9 := Aside0.mk A90
  clear A90
  have HC10 := Aside0.mk H
  clear H
  go_enter Try.func12, Try.ntmps12
  go_upto_region 5 with (first | ((with_reducible refine gate_callee (f := 23) rfl ?_); refine goesL_ (some 13) rfl rfl Try.func23 (by kernel_rfl) rfl #[.int .i64 a0] rfl (by (try simp only [List.map_toArray, List.map_cons, List.map_nil]); first | done | rfl | (simp only [List.length_drop, List.length_take]; rfl)) ?_; (with_reducible refine (scutageplay_Amount.calls a0 t127 _ A4.out).mono ?_); rintro e w' ⟨rfl, ⟨nd, rfl⟩⟩; refine ⟨_, rfl, ?_⟩) | ((with_reducible refine gate_callee (f := 23) rfl ?_); refine goesL_ (some 15) rfl rfl Try.func23 (by kernel_rfl) rfl #[.int .i64 a1] rfl (by (try simp only [List.map_toArray, List.map_cons, List.map_nil]); first | done | rfl | (simp only [List.length_drop, List.length_take]; rfl)) ?_; (with_reducible refine (scutageplay_Amount.calls a1 t128 _ A5.out).mono ?_); rintro e w' ⟨rfl, ⟨nd, rfl⟩⟩; refine ⟨_, rfl, ?_⟩) | ((with_reducible refine gate_callee (f := 23) rfl ?_); refine goesL_ (some 17) rfl rfl Try.func23 (by kernel_rfl) rfl #[.int .i64 a2] rfl (by (try simp only [List.map_toArray, List.map_cons, List.map_nil]); first | done | rfl | (simp only [List.length_drop, List.length_take]; rfl)) ?_; (with_reducible refine (scutageplay_Amount.calls a2 t129 _ A6.out).mono ?_); rintro e w' ⟨rfl, ⟨nd, rfl⟩⟩; refine ⟨_, rfl, ?_⟩) | ((with_reducible refine gate_callee (f := 30) rfl ?_); refine goesL_ (some 22) rfl rfl Try.func30 (by kernel_rfl) rfl #[.int .i64 t127, .int .i64 t128, .int .i64 t129] rfl (by (try simp only [List.map_toArray, List.map_cons, List.map_nil]); first | done | rfl | (simp only [List.length_drop, List.length_take]; rfl)) ?_; (with_reducible refine (bridge_Income.calls k t127 t128 t129 t130 t131 _ A7.out).mono ?_); rintro e w11 ⟨rfl, hb⟩; refine ⟨_, rfl, ?_⟩; have n0_ := Aside0.mk (below_step (by repeat (first | (with_reducible first | exact HB.out | apply below_alloc | apply pw_below_drewN | apply below_drew1) | exact HB.out)) hb); clear HB; have HB := n0_; clear n0_; (try clear hb); (try clear hb2); (try clear hk); (try clear hi)) | ((with_reducible refine gate_callee (f := 33) rfl ?_); refine goesL_ (some 29) rfl rfl Try.func33 (by kernel_rfl) rfl #[.int .i64 t127, .int .i64 t128, .int .i64 t129] rfl (by (try simp only [List.map_toArray, List.map_cons, List.map_nil]); first | done | rfl | (simp only [List.length_drop, List.length_take]; rfl)) ?_; (with_reducible refine (scutageref09_Income.calls t127 t128 t129 t132 t133 _ A8.out).mono ?_); rintro e w' ⟨rfl, ⟨nd, rfl⟩⟩; refine ⟨_, rfl, ?_⟩) | ((with_reducible refine gate_callee (f := 32) rfl ?_); refine goesL_ (some 35) rfl rfl Try.func32 (by kernel_rfl) rfl #[.int .i64 t127, .int .i64 t128, .int .i64 t129] rfl (by (try simp only [List.map_toArray, List.map_cons, List.map_nil]); first | done | rfl | (simp only [List.length_drop, List.length_take]; rfl)) ?_; (with_reducible refine (bridge_Lines.calls k t127 t128 t129 t134 _ A9.out).mono ?_); rintro e w12 ⟨v135, rfl, ho0, hb⟩; refine ⟨_, rfl, ?_⟩; have n0_ := Aside0.mk (Kd.R_lower ho0 (below_size (by repeat (first | (with_reducible first | exact HB.out | apply below_alloc | apply pw_below_drewN | apply below_drew1) | exact HB.out)))); have n1_ := Aside0.mk (below_step (by repeat (first | (with_reducible first | exact HB.out | apply below_alloc | apply pw_below_drewN | apply below_drew1) | exact HB.out)) hb); clear HB; have HO136 := n0_; have HB := n1_; clear n0_ n1_; (try clear hb); (try clear hb2); (try clear hk); (try clear hi); (try clear ho0)))
  (try simp only [Act.put, List.setIfInBounds_toArray, List.set_cons_zero, List.set_cons_succ])
  go_cut [43] (fun v43 wc => ∃ (kq : Nat) (x43_9 : Bool), v43 = .bool x43_9 ∧ Aside0 (scutagelaw12_BridgeTells.j0 kq t127 t128 t129 t130 t131 t134 x43_9 = some r) ∧ Aside0 (kq ≤ k) ∧ Aside0 (Kd.R k41 41 wc w.heap.size (fun _ => True) v135 t134) ∧ Aside0 (Below w.heap.size w wc))
  case first =>
    have H := HC10.out
    clear HC10
    by_cases c13 : t130 = t132
    · rw [if_pos c13] at H
      have c13b0 : (t130 == t132) = true := beq_iff_eq.mpr c13
      have c13b1 : (t130 != t132) = false := bne_eq_false_iff_eq.mpr c13
      clear c13
      (first | rw [c13b0] | (simp only [i64_w, i32_w]; rw [c13b0]) | skip)
      have H' := Aside0.mk H
      clear H
      go_wp2
      go_meet
      case rel => exact ⟨_, ((t131 != t133)), (by first | rfl | (simp; done) | (simp [*]; done)), H', ⟨by first | omega | exact Nat.le_refl _⟩, ⟨by (with_reducible repeat (first | apply Kd.R_alloc | apply Kd.R_drewN | apply Kd.R_drew)); exact HO136.out⟩, ⟨by repeat (first | (with_reducible first | exact HB.out | apply below_alloc | apply pw_below_drewN | apply below_drew1) | exact HB.out)⟩⟩
    · rw [if_neg c13] at H
      have c13b0 : (t130 == t132) = false := beq_eq_false_iff_ne.mpr c13
      have c13b1 : (t130 != t132) = true := bne_iff_ne.mpr c13
      (first | rw [c13b0] | (simp only [i64_w, i32_w]; rw [c13b0]) | skip)
      have H' := Aside0.mk H
      clear H
      go_wp2
      go_meet
      case rel => exact ⟨_, (true), (by first | rfl | (simp; done) | (simp [*]; done)), H', ⟨by first | omega | exact Nat.le_refl _⟩, ⟨by (with_reducible repeat (first | apply Kd.R_alloc | apply Kd.R_drewN | apply Kd.R_drew)); exact HO136.out⟩, ⟨by repeat (first | (with_reducible first | exact HB.out | apply below_alloc | apply pw_below_drewN | apply below_drew1) | exact HB.out)⟩⟩
  case rest =>
    clear HC10
    try clear c1
    try clear c2
    try clear p2
    try clear c3
    try clear c12
    try clear c13
    try clear c13b0
    try clear c13b1
    obtain ⟨kq, x43_9, rfl, HA, HJ9, HO_11, HB⟩ := hcut
    cases kq with
    | zero => exact absurd HA.out (by simp [scutagelaw12_BridgeTells.j0])
    | succ kj9 =>
      have H := HA.out
      clear HA
      simp only [scutagelaw12_BridgeTells.j0] at H
      by_cases c14 : x43_9 = true
      · subst c14
        have H1 : (some false) = some r := by rw [if_pos rfl] at H; exact H
        clear H
        have H := H1
        clear H1
        obtain rfl := Option.some.inj H
        go_wp2
        go_ret
        exact ⟨by first | rfl | (simp [errW_none, errW_some] <;> rfl) | (simp [*, errW_none, errW_some] <;> rfl), by repeat (first | (with_reducible first | exact HB.out | apply below_alloc | apply pw_below_drewN | apply below_drew1) | exact HB.out)⟩
      · replace c14 := Bool.eq_false_iff.mpr c14
        subst c14
        have H1 : (if t131 = true then ((api_Item.f kj9 t134 (([(⟨1, t127⟩ : S41), (⟨2, t128⟩ : S41), (⟨3, wrap64 (-t129)⟩ : S41), (⟨4, t130⟩ : S41)] : List (S41)))).bind fun t140 => (if t140 = true then ((scutagelaw12_wakes.f kj9).bind fun t141 => (some t141)) else (some false))) else (if (t134.length : Int) = 0 then ((scutagelaw12_wakes.f kj9).bind fun t142 => (some t142)) else (some false))) = some r := by rw [if_neg (show ¬ (false = true) by decide)] at H; exact H
        clear H
        have H := H1
        clear H1
        by_cases c15 : t131 = true
        · subst c15
          have H1 : ((api_Item.f kj9 t134 (([(⟨1, t127⟩ : S41), (⟨2, t128⟩ : S41), (⟨3, wrap64 (-t129)⟩ : S41), (⟨4, t130⟩ : S41)] : List (S41)))).bind fun t140 => (if t140 = true then ((scutagelaw12_wakes.f kj9).bind fun t141 => (some t141)) else (some false))) = some r := by rw [if_pos rfl] at H; exact H
          clear H
          have H := H1
          clear H1
          obtain ⟨y137, hy137⟩ : ∃ y_ : List (S41), y_ = (([(⟨1, t127⟩ : S41), (⟨2, t128⟩ : S41), (⟨3, wrap64 (-t129)⟩ : S41), (⟨4, t130⟩ : S41)] : List (S41))) := ⟨_, rfl⟩
          replace H : ((api_Item.f kj9 t134 y137).bind fun t140 => (if t140 = true then ((scutagelaw12_wakes.f kj9).bind fun t141 => (some t141)) else (some false))) = some r := by first | (rw [hy137]; with_reducible exact H) | (have H2_ := (Option.bind_some _ _).symm.trans H; rw [hy137]; with_reducible exact H2_) | (have H2_ := (Option.bind_some _ _).symm.trans H; with_reducible exact H2_) | with_reducible exact H | (rw [hy137]; exact H) | exact H
          have Ny137 := Aside0.mk hy137
          clear hy137
          replace H := Option.bind_eq_some_iff.mp H
          obtain ⟨t140, A160, H⟩ := H
          replace H : (if t140 = true then ((scutagelaw12_wakes.f kj9).bind fun t141 => (some t141)) else (some false)) = some r := H
          have A16 := Aside0.mk A160
          clear A160
          by_cases c17 : t140 = true
          · subst c17
            have H1 : ((scutagelaw12_wakes.f kj9).bind fun t141 => (some t141)) = some r := by rw [if_pos rfl] at H; exact H
            clear H
            have H := H1
            clear H1
            replace H := Option.bind_eq_some_iff.mp H
            obtain ⟨t141, A180, H⟩ := H
            replace H : (some t141) = some r := H
            have A18 := Aside0.mk A180
            clear A180
            obtain rfl := Option.some.inj H
            go_wp2_with (first | ((with_reducible refine gate_dst (N := 62) rfl ?_); refine Kd.R_lit k41 _ 41 ?hg (N := 62) ?hd (xs := ([(⟨1, t127⟩ : S41), (⟨2, t128⟩ : S41), (⟨3, wrap64 (-t129)⟩ : S41), (⟨4, t130⟩ : S41)] : List (S41))) (inner := [.int .i64 1, .int .i64 t127, .int .i64 2, .int .i64 t128, .int .i64 3, .int .i64 (wrap64 (-t129)), .int .i64 4, .int .i64 t130]) (ok := fun _ => True) (okp := fun _ => True) ?hr ?hp (fun _ hk => hk) trivial (Below.refl _ _) (Nat.le_refl _) (by simp) ?_; (case hd => rfl); (case hg => rfl); (case hr => first | (go_simp; done) | (go_simp; rfl)); (case hp => exact (Reps.c2 (show Kd.M k41 _ _ _ (⟨1, t127⟩ : S41) [.int .i64 1, .int .i64 t127] from (k41_mkM _ _ _ (⟨1, t127⟩ : S41) )) (Reps.c2 (show Kd.M k41 _ _ _ (⟨2, t128⟩ : S41) [.int .i64 2, .int .i64 t128] from (k41_mkM _ _ _ (⟨2, t128⟩ : S41) )) (Reps.c2 (show Kd.M k41 _ _ _ (⟨3, wrap64 (-t129)⟩ : S41) [.int .i64 3, .int .i64 (wrap64 (-t129))] from (k41_mkM _ _ _ (⟨3, wrap64 (-t129)⟩ : S41) )) (Reps.c2 (show Kd.M k41 _ _ _ (⟨4, t130⟩ : S41) [.int .i64 4, .int .i64 t130] from (k41_mkM _ _ _ (⟨4, t130⟩ : S41) )) (Reps.none _ _)))))); intro v138 w19 ho20 hb hg_ hnew_; clear hg_ hnew_; (first | rw [← Ny137.out] at ho20 | (simp only [Int.reduceToNat] at ho20; rw [← Ny137.out] at ho20)); have n0_ := Aside0.mk (Kd.R_elder' (by (with_reducible repeat (first | apply Kd.R_alloc | apply Kd.R_drewN | apply Kd.R_drew)); exact HO_11.out) (Kd.R_base ho20) hb); have n1_ := Aside0.mk (Kd.R_lower (Kd.R_new' ho20 (Kd.R_lt (by (with_reducible repeat (first | apply Kd.R_alloc | apply Kd.R_drewN | apply Kd.R_drew)); exact HO_11.out))) (below_size (by repeat (first | (with_reducible first | exact HB.out | apply below_alloc | apply pw_below_drewN | apply below_drew1) | exact HB.out)))); have n2_ := Aside0.mk (below_step (by repeat (first | (with_reducible first | exact HB.out | apply below_alloc | apply pw_below_drewN | apply below_drew1) | exact HB.out)) hb); clear HO_11; clear HB; have HO_11 := n0_; have HO139 := n1_; have HB := n2_; clear n0_ n1_ n2_; clear hb ho20; obtain ⟨Ao21, co21, eo21⟩ := Kd.R_slice HO_11.out; subst eo21; obtain ⟨Ao22, co22, eo22⟩ := Kd.R_slice HO139.out; subst eo22) | ((with_reducible refine gate_callee (f := 34) rfl ?_); refine goesL_ (some 63) rfl rfl Try.func34 (by kernel_rfl) rfl #[.slice Ao21 t134.length co21, .slice Ao22 y137.length co22] rfl (by (try simp only [List.map_toArray, List.map_cons, List.map_nil]); first | done | rfl | (simp only [List.length_drop, List.length_take]; rfl)) ?_; (with_reducible refine (api_Item.calls kj9 _ _ t134 _ _ y137 true _ ?side1 ?side2 ?side3 ?side4 A16.out).mono ?_); (case side1 => repeat (first | exact (Kd.R_reads' HO_11.out).2.2 | (with_reducible refine Kd.C_alloc ?_ _) | (with_reducible refine Kd.C_drewN ?_ _) | (with_reducible refine Kd.C_drew ?_))); (case side2 => exact (Kd.R_reads' HO_11.out).2.1); (case side3 => repeat (first | exact (Kd.R_reads' HO139.out).2.2 | (with_reducible refine Kd.C_alloc ?_ _) | (with_reducible refine Kd.C_drewN ?_ _) | (with_reducible refine Kd.C_drew ?_))); (case side4 => exact (Kd.R_reads' HO139.out).2.1); rintro e w' ⟨rfl, ⟨nd, rfl⟩⟩; refine ⟨_, rfl, ?_⟩) | (go_at_call 31; (with_reducible refine (scutagelaw12_wakes.calls kj9  t141 _ A18.out).mono ?_); rintro e w23 ⟨rfl, hb⟩; have n0_ := Aside0.mk (Kd.R_below (by (with_reducible repeat (first | apply Kd.R_alloc | apply Kd.R_drewN | apply Kd.R_drew)); exact HO_11.out) hb); have n1_ := Aside0.mk (Kd.R_below (by (with_reducible repeat (first | apply Kd.R_alloc | apply Kd.R_drewN | apply Kd.R_drew)); exact HO139.out) hb); have n2_ := Aside0.mk (below_step (by repeat (first | (with_reducible first | exact HB.out | apply below_alloc | apply pw_below_drewN | apply below_drew1) | exact HB.out)) hb); clear HO_11; clear HO139; clear HB; have HO_11 := n0_; have HO139 := n1_; have HB := n2_; clear n0_ n1_ n2_; (try clear hb); (try clear hb2); (try clear hk); (try clear hi)))
            go_ret
            exact ⟨by first | rfl | (simp [errW_none, errW_some] <;> rfl) | (simp [*, errW_none, errW_some] <;> rfl), by repeat (first | (with_reducible first | exact HB.out | apply below_alloc | apply pw_below_drewN | apply below_drew1) | exact HB.out)⟩
          · replace c17 := Bool.eq_false_iff.mpr c17
            subst c17
            have H1 : (some false) = some r := by rw [if_neg (show ¬ (false = true) by decide)] at H; exact H
            clear H
            have H := H1
            clear H1
            obtain rfl := Option.some.inj H
            go_wp2_with (first | ((with_reducible refine gate_dst (N := 62) rfl ?_); refine Kd.R_lit k41 _ 41 ?hg (N := 62) ?hd (xs := ([(⟨1, t127⟩ : S41), (⟨2, t128⟩ : S41), (⟨3, wrap64 (-t129)⟩ : S41), (⟨4, t130⟩ : S41)] : List (S41))) (inner := [.int .i64 1, .int .i64 t127, .int .i64 2, .int .i64 t128, .int .i64 3, .int .i64 (wrap64 (-t129)), .int .i64 4, .int .i64 t130]) (ok := fun _ => True) (okp := fun _ => True) ?hr ?hp (fun _ hk => hk) trivial (Below.refl _ _) (Nat.le_refl _) (by simp) ?_; (case hd => rfl); (case hg => rfl); (case hr => first | (go_simp; done) | (go_simp; rfl)); (case hp => exact (Reps.c2 (show Kd.M k41 _ _ _ (⟨1, t127⟩ : S41) [.int .i64 1, .int .i64 t127] from (k41_mkM _ _ _ (⟨1, t127⟩ : S41) )) (Reps.c2 (show Kd.M k41 _ _ _ (⟨2, t128⟩ : S41) [.int .i64 2, .int .i64 t128] from (k41_mkM _ _ _ (⟨2, t128⟩ : S41) )) (Reps.c2 (show Kd.M k41 _ _ _ (⟨3, wrap64 (-t129)⟩ : S41) [.int .i64 3, .int .i64 (wrap64 (-t129))] from (k41_mkM _ _ _ (⟨3, wrap64 (-t129)⟩ : S41) )) (Reps.c2 (show Kd.M k41 _ _ _ (⟨4, t130⟩ : S41) [.int .i64 4, .int .i64 t130] from (k41_mkM _ _ _ (⟨4, t130⟩ : S41) )) (Reps.none _ _)))))); intro v138 w24 ho25 hb hg_ hnew_; clear hg_ hnew_; (first | rw [← Ny137.out] at ho25 | (simp only [Int.reduceToNat] at ho25; rw [← Ny137.out] at ho25)); have n0_ := Aside0.mk (Kd.R_elder' (by (with_reducible repeat (first | apply Kd.R_alloc | apply Kd.R_drewN | apply Kd.R_drew)); exact HO_11.out) (Kd.R_base ho25) hb); have n1_ := Aside0.mk (Kd.R_lower (Kd.R_new' ho25 (Kd.R_lt (by (with_reducible repeat (first | apply Kd.R_alloc | apply Kd.R_drewN | apply Kd.R_drew)); exact HO_11.out))) (below_size (by repeat (first | (with_reducible first | exact HB.out | apply below_alloc | apply pw_below_drewN | apply below_drew1) | exact HB.out)))); have n2_ := Aside0.mk (below_step (by repeat (first | (with_reducible first | exact HB.out | apply below_alloc | apply pw_below_drewN | apply below_drew1) | exact HB.out)) hb); clear HO_11; clear HB; have HO_11 := n0_; have HO139 := n1_; have HB := n2_; clear n0_ n1_ n2_; clear hb ho25; obtain ⟨Ao26, co26, eo26⟩ := Kd.R_slice HO_11.out; subst eo26; obtain ⟨Ao27, co27, eo27⟩ := Kd.R_slice HO139.out; subst eo27) | ((with_reducible refine gate_callee (f := 34) rfl ?_); refine goesL_ (some 63) rfl rfl Try.func34 (by kernel_rfl) rfl #[.slice Ao26 t134.length co26, .slice Ao27 y137.length co27] rfl (by (try simp only [List.map_toArray, List.map_cons, List.map_nil]); first | done | rfl | (simp only [List.length_drop, List.length_take]; rfl)) ?_; (with_reducible refine (api_Item.calls kj9 _ _ t134 _ _ y137 false _ ?side1 ?side2 ?side3 ?side4 A16.out).mono ?_); (case side1 => repeat (first | exact (Kd.R_reads' HO_11.out).2.2 | (with_reducible refine Kd.C_alloc ?_ _) | (with_reducible refine Kd.C_drewN ?_ _) | (with_reducible refine Kd.C_drew ?_))); (case side2 => exact (Kd.R_reads' HO_11.out).2.1); (case side3 => repeat (first | exact (Kd.R_reads' HO139.out).2.2 | (with_reducible refine Kd.C_alloc ?_ _) | (with_reducible refine Kd.C_drewN ?_ _) | (with_reducible refine Kd.C_drew ?_))); (case side4 => exact (Kd.R_reads' HO139.out).2.1); rintro e w' ⟨rfl, ⟨nd, rfl⟩⟩; refine ⟨_, rfl, ?_⟩))
            go_ret
            exact ⟨by first | rfl | (simp [errW_none, errW_some] <;> rfl) | (simp [*, errW_none, errW_some] <;> rfl), by repeat (first | (with_reducible first | exact HB.out | apply below_alloc | apply pw_below_drewN | apply below_drew1) | exact HB.out)⟩
        · replace c15 := Bool.eq_false_iff.mpr c15
          subst c15
          have H1 : (if (t134.length : Int) = 0 then ((scutagelaw12_wakes.f kj9).bind fun t142 => (some t142)) else (some false)) = some r := by rw [if_neg (show ¬ (false = true) by decide)] at H; exact H
          clear H
          have H := H1
          clear H1
          by_cases c28 : (t134.length : Int) = 0
          · rw [if_pos c28] at H
            have c28b0 : ((t134.length : Int) == 0) = true := beq_iff_eq.mpr c28
            have c28b1 : ((t134.length : Int) != 0) = false := bne_eq_false_iff_eq.mpr c28
            clear c28
            replace H := Option.bind_eq_some_iff.mp H
            obtain ⟨t142, A290, H⟩ := H
            replace H : (some t142) = some r := H
            have A29 := Aside0.mk A290
            clear A290
            obtain rfl := Option.some.inj H
            obtain ⟨Ao30, co30, eo30⟩ := Kd.R_slice HO_11.out
            subst eo30
            go_wp2_with (first | (go_at_call 31; (with_reducible refine (scutagelaw12_wakes.calls kj9  t142 _ A29.out).mono ?_); rintro e w31 ⟨rfl, hb⟩; have n0_ := Aside0.mk (Kd.R_below (by (with_reducible repeat (first | apply Kd.R_alloc | apply Kd.R_drewN | apply Kd.R_drew)); exact HO_11.out) hb); have n1_ := Aside0.mk (below_step (by repeat (first | (with_reducible first | exact HB.out | apply below_alloc | apply pw_below_drewN | apply below_drew1) | exact HB.out)) hb); clear HO_11; clear HB; have HO_11 := n0_; have HB := n1_; clear n0_ n1_; (try clear hb); (try clear hb2); (try clear hk); (try clear hi)))
            go_ret
            exact ⟨by first | rfl | (simp [errW_none, errW_some] <;> rfl) | (simp [*, errW_none, errW_some] <;> rfl), by repeat (first | (with_reducible first | exact HB.out | apply below_alloc | apply pw_below_drewN | apply below_drew1) | exact HB.out)⟩
          · rw [if_neg c28] at H
            have c28b0 : ((t134.length : Int) == 0) = false := beq_eq_false_iff_ne.mpr c28
            have c28b1 : ((t134.length : Int) != 0) = true := bne_iff_ne.mpr c28
            have c28b2 : ¬ (t134 = []) := fun h_ => c28 (by rw [h_]; rfl)
            obtain rfl := Option.some.inj H
            obtain ⟨Ao32, co32, eo32⟩ := Kd.R_slice HO_11.out
            subst eo32
            go_wp2
            go_ret
            exact ⟨by first | rfl | (simp [errW_none, errW_some] <;> rfl) | (simp [*, errW_none, errW_some] <;> rfl), by repeat (first | (with_reducible first | exact HB.out | apply below_alloc | apply pw_below_drewN | apply below_drew1) | exact HB.out)⟩

/-- THE ONE PURE STATEMENT of scutagelaw12_BridgeTells: yours. -/
def scutagelaw12_BridgeTells.Pure : Prop := ∀ (a0 : Int) (a1 : Int) (a2 : Int), (Lit.int .i64 a0).wf = true → (Lit.int .i64 a1).wf = true → (Lit.int .i64 a2).wf = true → ∃ k, scutagelaw12_BridgeTells.f k a0 a1 a2 = some true
theorem scutagelaw12_BridgeTells.walk (P : scutagelaw12_BridgeTells.Pure) (a0 : Int) (a1 : Int) (a2 : Int) (w : World) (w0 : (Lit.int .i64 a0).wf = true) (w1 : (Lit.int .i64 a1).wf = true) (w2 : (Lit.int .i64 a2).wf = true) :
    Calls Try.prog 12 #[.int .i64 a0, .int .i64 a1, .int .i64 a2] w fun e w' => e = .returned (.bool true) ∧ Below w.heap.size w w' := by
  obtain ⟨k, h⟩ := P a0 a1 a2 w0 w1 w2
  refine (scutagelaw12_BridgeTells.calls k a0 a1 a2 true w h).mono ?_
  rintro e w' ⟨rfl, hd⟩
  exact ⟨rfl, hd⟩

end Go.Proofs.Ytalelfjjigfpeaa.PBridgeTells
