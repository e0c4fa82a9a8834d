/- Proved: the law UseRoom is true of every input: room is a part of the income, rounded down: none of a loss, all of it with a cap of the whole. No condition. -/
import Derived.Test.YtfnihfcdoibleaaPUseRoomx1
import Derived.Test.YtfnihfcdoibleaaNums
namespace Go.Proofs.Ytfnihfcdoibleaa.Pure
set_option linter.unusedSimpArgs false
open Go.RowKit Go.Proofs.Ytfnihfcdoibleaa.PUseRoom Go.Proofs.YtfnihfcdoibleaaW.PrintWords Go.Proofs.YtfnihfcdoibleaaW.PrintLast Go.Proofs.YtfnihfcdoibleaaW.PrintMore

theorem within (a m : Int) (h : (Lit.int .i64 a).wf = true) (hm : 1 ≤ m) (hm2 : m ≤ 9223372036854775807) : ∃ n, scutagekeep_Within.f a m = some n ∧ 0 ≤ n ∧ n < m := by
  obtain ⟨h1, h2⟩ := Nums.wf64 h
  unfold scutagekeep_Within.f
  rw [if_neg (by omega), if_neg (by omega)]
  have q1 := Int.tmod_lt_of_pos a (show 0 < m by omega)
  have q2 := Int.lt_tmod_of_pos a (show 0 < m by omega)
  by_cases c : Int.tmod a m < 0
  · rw [if_pos c]
    exact ⟨_, rfl, by rw [Nums.w64 (by omega) (by omega)]; omega, by rw [Nums.w64 (by omega) (by omega)]; omega⟩
  · rw [if_neg c]
    exact ⟨_, rfl, by omega, by omega⟩


theorem money_t {a : Int} (h1 : -100000000000 ≤ a) (h2 : a ≤ 100000000000) : rate_Money.f a = some true := by
  unfold rate_Money.f; rw [if_pos (by omega), decide_eq_true (by omega)]

theorem money_f {a : Int} (h : a < -100000000000 ∨ 100000000000 < a) : rate_Money.f a = some false := by
  unfold rate_Money.f
  by_cases c : a ≥ -100000000000
  · rw [if_pos c, decide_eq_false (by omega)]
  · rw [if_neg c]


theorem right_t {a : Int} (h1 : 0 ≤ a) (h2 : a ≤ 1000000) : rate_Right.f a = some true := by
  unfold rate_Right.f; rw [if_pos (by omega), decide_eq_true (by omega)]

theorem right_f {a : Int} (h : a < 0 ∨ 1000000 < a) : rate_Right.f a = some false := by
  unfold rate_Right.f
  by_cases c : a ≥ 0
  · rw [if_pos c, decide_eq_false (by omega)]
  · rw [if_neg c]


theorem floor_val {n r : Int} (h1 : 0 ≤ n) (h2 : n ≤ 100000000000) (h3 : 0 ≤ r) (h4 : r ≤ 1000000) : rate_Floor.f n r = some (n * r / 1000000, true) := by
  have hb := Nums.mul_bd h1 h2 h3 h4
  unfold rate_Floor.f
  rw [money_t (by omega) (by omega), right_t h3 h4]
  simp (disch := omega) only [Option.bind_some, Nums.w64, if_pos, if_neg, if_true, if_false, Bool.false_eq_true, reduceIte, Nums.beq_t, Nums.beq_f, Nums.bne_t, Nums.bne_f, Nums.dec_t, Nums.dec_f]
  generalize n * r = p at *
  rw [Nums.tdiv_pos (by omega), Nums.w64 (by omega) (by omega)]

theorem floor_bad {n r : Int} (h : n < 0 ∨ 100000000000 < n ∨ r < 0 ∨ 1000000 < r) : rate_Floor.f n r = some (0, false) := by
  unfold rate_Floor.f
  by_cases c1 : n < -100000000000 ∨ 100000000000 < n
  · rw [money_f c1]; simp
  · rw [money_t (by omega) (by omega)]
    simp only [Option.bind_some, if_true]
    by_cases c2 : n < 0
    · rw [if_pos c2]
    · rw [if_neg c2, right_f (by omega)]; simp


theorem room_val {n r : Int} (h1 : 0 ≤ n) (h2 : n ≤ 100000000000) (h3 : 0 ≤ r) (h4 : r ≤ 1000000) : use_Room.f n r = some (n * r / 1000000) := by
  unfold use_Room.f
  by_cases c : n < 1
  · rw [if_pos c]
    have : n = 0 := by omega
    subst this
    simp
  · rw [if_neg c, floor_val h1 h2 h3 h4]; rfl

theorem room_none {n r : Int} (h : n < 1 ∨ r < 0 ∨ 1000000 < r) : use_Room.f n r = some 0 := by
  unfold use_Room.f
  by_cases c : n < 1
  · rw [if_pos c]
  · rw [if_neg c, floor_bad (by omega)]; rfl

theorem wakes_val : scutagelaw14_wakes.f 9 = some true := by decide +kernel

theorem UseRoom : scutagelaw14_UseRoom.Pure := by
  intro a0 a1 w0 w1
  refine ⟨9, ?_⟩
  obtain ⟨n, hn, n0, n1⟩ := within a0 100000000001 w0 (by omega) (by omega)
  obtain ⟨r, hr, r0, r1⟩ := within a1 1000001 w1 (by omega) (by omega)
  unfold scutagelaw14_UseRoom.f
  rw [hn, hr]
  have hw := wakes_val
  have hb := Nums.mul_bd n0 (show n ≤ 100000000000 by omega) r0 (show r ≤ 1000000 by omega)
  simp only [Option.bind_some]
  rw [room_val n0 (by omega) r0 (by omega), room_val n0 (by omega) (show 0 ≤ (1000000 : Int) by omega) (by omega), room_none (n := -n |> wrap64) (by rw [Nums.w64 (by omega) (by omega)]; omega),
    room_val n0 (by omega) (show 0 ≤ (0 : Int) by omega) (by omega), room_none (n := n) (r := 1000001) (by omega), room_none (n := n) (r := -1) (by omega)]
  simp only [Option.bind_some]
  have u1 := Int.mul_ediv_self_le (x := n * r) (k := 1000000) (by decide)
  have u2 := Int.lt_mul_ediv_self_add (x := n * r) (k := 1000000) (by decide)
  have u0 := Int.ediv_nonneg hb.1 (show (0 : Int) ≤ 1000000 by decide)
  generalize n * r = p at *
  generalize p / 1000000 = q at *
  rw [if_pos (by omega), Nums.w64 (n := q * 1000000) (by omega) (by omega), Nums.w64 (n := p) (by omega) (by omega), if_pos (by omega), Nums.w64 (n := q + 1) (by omega) (by omega), Nums.w64 (n := (q + 1) * 1000000) (by omega) (by omega), if_pos (by omega),
    if_pos (by omega), if_pos trivial, if_pos (by omega), if_pos trivial, if_pos trivial, hw]
  rfl

end Go.Proofs.Ytfnihfcdoibleaa.Pure
