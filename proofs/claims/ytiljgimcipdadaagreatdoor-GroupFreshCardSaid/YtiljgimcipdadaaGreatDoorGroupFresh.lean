/- A group that is new: what it reports. -/
import Derived.Test.YtiljgimcipdadaaGreatDoorFrA
set_option linter.unusedSimpArgs false
set_option linter.unusedVariables false
set_option maxRecDepth 100000
attribute [-simp] getElem?_pos
namespace Go.Proofs.YtiljgimcipdadaaGreatDoor.Ev.CF
open Go

def H0 : LH := [.own 81 [.nils], .own 83 [.nils], .own 85 [.nils], .own 50 [.nils, .ptr 0 0, .ptr 1 0, .ptr 2 0]]
theorem new_ok : callX C 4 [] [] = some (.s (.ptr 3 0), H0) := run_call 50 rfl

theorem right_ok (p : Int) (h : LH) : callX C 15 [.s (.int .i64 p)] h = some (.s (.bool (decide (0 ≤ p ∧ p ≤ 399))), h) := by
  apply callX_wp
  refine WPc.intro (e := e15) rfl (Nat.le_of_ble_eq_true rfl) ?_
  by_cases h1 : 0 ≤ p
  · by_cases h2 : p ≤ 399
    · simp [h1, h2]
    · simp [h1, h2]
  · simp [h1]
def H0p : LH := H0 ++ [.own 26 [.nils, .int .i64 0, .int .i64 0, .int .i64 0]]
theorem closed_ok (p : Int) : callX C 16 [.s (.ptr 3 0), .s (.int .i64 p)] H0p = some (.s (.bool true), H0p ++ [.own 3 [.int .i64 p], .clo 29 [] [.s (.ptr 5 0)]]) := run_call 50 rfl
/-- A loop whose first round is its last. -/
theorem WPl.once {C : Nat → Option EF} {b : EC} {keep : List Nat} {fr : Fr} {h : LH} {Φ : Ex → Fr → LH → Prop} (hk : keepF keep fr = fr) (w : WPk C b fr h (KL (fun _ _ => False) keep Φ)) : WPl C b keep fr h Φ := by
  refine WPl.inv (fun n fr' h' => fr' = fr ∧ h' = h) (fun n fr' h' ⟨e1, e2⟩ => ?_) 0 fr h ⟨rfl, rfl⟩
  subst e1 e2
  refine ⟨hk, ?_⟩
  obtain ⟨x, f, g, e, q⟩ := w
  refine ⟨x, f, g, e, ?_⟩
  cases x <;> first | exact q | exact q.elim
def H1p (p : Int) : LH := H0p ++ [.own 3 [.int .i64 p], .clo 29 [] [.s (.ptr 5 0)]]
def H2p (p : Int) : LH := H1p p ++ [.own 26 [.nils, .int .i64 0, .int .i64 0, .int .i64 0]]
theorem asset_ok (p : Int) : callX C 21 [.s (.ptr 3 0), .s (.int .i64 p)] (H2p p) = some (.tup [.s (.int .i64 0), .s (.int .i64 0)], H2p p) := run_call 50 rfl
theorem sum_ok (p : Int) : callX C 22 [.s .nils] (H2p p) = some (.s (.int .i64 0), H2p p) := run_call 50 rfl
theorem report_ok (p : Int) : WPc C 5 [.s (.ptr 3 0), .s (.int .i64 p)] H0 fun v h => v = .tup [.agg [.nils, .int .i64 0, .int .i64 0, .int .i64 0], .s (.int .i64 (if 0 ≤ p ∧ p ≤ 399 then 0 else 1))] ∧ h = (if 0 ≤ p ∧ p ≤ 399 then H2p p else H0p) := by
  refine WPc.post fun Ψ hΨ => ?_
  refine WPc.intro (e := e5) rfl (Nat.le_of_ble_eq_true rfl) ?_
  have e0 : H0 ++ [.own 26 [.nils, .int .i64 0, .int .i64 0, .int .i64 0]] = H0p := rfl
  have l0 : H0.length = 4 := rfl
  have l1 : H0p.length = 5 := rfl
  have g4 : H0p[4]? = some (.own 26 [.nils, .int .i64 0, .int .i64 0, .int .i64 0]) := rfl
  have s4 : H0p.set 4 (.own 26 [.nils, .int .i64 0, .int .i64 0, .int .i64 0]) = H0p := rfl
  by_cases hp : 0 ≤ p ∧ p ≤ 399
  · rw [if_pos hp, if_pos hp] at hΨ
    have c1 := closed_ok p
    have e1 : H0p ++ [.own 3 [.int .i64 p], .clo 29 [] [.s (.ptr 5 0)]] = H1p p := rfl
    have e2 : H1p p ++ [.own 26 [.nils, .int .i64 0, .int .i64 0, .int .i64 0]] = H2p p := rfl
    rw [e1] at c1
    have l1p : (H1p p).length = 7 := rfl
    have g7 : (H2p p)[7]? = some (.own 26 [.nils, .int .i64 0, .int .i64 0, .int .i64 0]) := rfl
    have s7 : (H2p p).set 7 (.own 26 [.nils, .int .i64 0, .int .i64 0, .int .i64 0]) = H2p p := rfl
    have g4' : (H2p p)[4]? = some (.own 26 [.nils, .int .i64 0, .int .i64 0, .int .i64 0]) := rfl
    have s4' : (H2p p).set 4 (.own 26 [.nils, .int .i64 0, .int .i64 0, .int .i64 0]) = H2p p := rfl
    have g3 : (H2p p)[3]? = some (.own 50 [.nils, .ptr 0 0, .ptr 1 0, .ptr 2 0]) := rfl
    simp [right_ok, hp, e0, l0, c1, e2, l1p, g7, s7, g3]
    refine WPl.once rfl ?_
    simp [l5_0, asset_ok, sum_ok, g7, s7, g4', s4']
    refine k_draw ?_
    have w0 : IntKind.i64.wrap 0 = 0 := by decide
    simp [w0, asset_ok, sum_ok, g7, s7, g4', s4']
    exact hΨ _ _ ⟨rfl, rfl⟩
  · rw [if_neg hp, if_neg hp] at hΨ
    simp [right_ok, hp, e0, l0, l1, g4, s4]
    exact hΨ _ _ ⟨rfl, rfl⟩

def H3 (p : Int) : LH := H2p p ++ [.own 26 [.nils, .int .i64 0, .int .i64 0, .int .i64 0]]
def H4 : LH := H0p ++ [.own 26 [.nils, .int .i64 0, .int .i64 0, .int .i64 0]]
/-- Of a number that is not looked at. -/
noncomputable def eps (c : Int → Bool) : Int := Classical.epsilon fun p => c p = false
theorem all_eps {c : Int → Bool} (h : c (eps c) = true) (p : Int) : c p = true := by
  cases hp : c p with
  | true => rfl
  | false =>
    have := Classical.epsilon_spec (p := fun p => c p = false) ⟨p, hp⟩
    rw [show Classical.epsilon (fun p => c p = false) = eps c from rfl, h] at this
    cases this
def isNils : Option (FV × LH) → Bool
  | some (.s .nils, _) => true
  | _ => false
theorem of_isNils {r : Option (FV × LH)} (h : isNils r = true) : ∃ h', r = some (.s .nils, h') := by
  unfold isNils at h
  split at h
  · exact ⟨_, rfl⟩
  · cases h
def cT (p : Int) : Bool := isNils (callB C 50 10 [.s (.ptr 3 0), .s (.str ⟨#[97]⟩), .s (.int .i64 5)] (H3 p))
theorem cT_eps : cT (eps cT) = true := by decide +kernel
theorem trial3 (p : Int) : ∃ h', callX C 10 [.s (.ptr 3 0), .s (.str ⟨#[97]⟩), .s (.int .i64 5)] (H3 p) = some (.s .nils, h') := by
  obtain ⟨h', he⟩ := of_isNils (all_eps cT_eps p)
  exact ⟨h', run_call 50 he⟩
theorem trial4_run : isNils (callB C 50 10 [.s (.ptr 3 0), .s (.str ⟨#[97]⟩), .s (.int .i64 5)] H4) = true := by decide +kernel
theorem trial4 : ∃ h', callX C 10 [.s (.ptr 3 0), .s (.str ⟨#[97]⟩), .s (.int .i64 5)] H4 = some (.s .nils, h') := by
  obtain ⟨h', he⟩ := of_isNils trial4_run
  exact ⟨h', run_call 50 he⟩
theorem groupFresh_row (p : Int) : ∃ h', callX C 3 [.s (.int .i64 p)] [] = some (.s (.bool true), h') ∧ True := by
  suffices w : WPc C 3 [.s (.int .i64 p)] [] fun v h => v = .s (.bool true) by
    obtain ⟨v, h', he, rfl⟩ := w
    exact ⟨h', he, trivial⟩
  refine WPc.post fun Ψ hΨ => ?_
  refine WPc.intro (e := e3) rfl (Nat.le_of_ble_eq_true rfl) ?_
  obtain ⟨v, h, hr, rfl, rfl⟩ := report_ok p
  by_cases hp : 0 ≤ p ∧ p ≤ 399
  · rw [if_pos hp, if_pos hp] at hr
    have l2 : (H2p p).length = 8 := rfl
    have e3 : H2p p ++ [.own 26 [.nils, .int .i64 0, .int .i64 0, .int .i64 0]] = H3 p := rfl
    have g3 : (H3 p)[8]? = some (.own 26 [.nils, .int .i64 0, .int .i64 0, .int .i64 0]) := rfl
    have s3 : (H3 p).set 8 (.own 26 [.nils, .int .i64 0, .int .i64 0, .int .i64 0]) = H3 p := rfl
    have j1 : callX C 6 [.s (.ptr 3 0)] (H3 p) = some (.s .nils, H3 p) := run_call 50 rfl
    have j2 : callX C 7 [.s (.ptr 3 0)] (H3 p) = some (.s .nils, H3 p) := run_call 50 rfl
    have j3 : callX C 8 [.s (.ptr 3 0)] (H3 p) = some (.s .nils, H3 p) := run_call 50 rfl
    have j4 : callX C 9 [.s (.ptr 3 0)] (H3 p) = some (.s .nils, H3 p) := run_call 50 rfl
    have h1 : ¬ p < 0 := by omega
    have h2 : ¬ 399 < p := by omega
    obtain ⟨h5, j5⟩ := trial3 p
    obtain ⟨h6, j6⟩ := wakes_ok h5
    simp [new_ok, hr, l2, e3, g3, s3, j1, j2, j3, j4, j5, j6, h1, h2]
    exact hΨ _ _ rfl
  · rw [if_neg hp, if_neg hp] at hr
    have l2 : H0p.length = 5 := rfl
    have e3 : H0p ++ [.own 26 [.nils, .int .i64 0, .int .i64 0, .int .i64 0]] = H4 := rfl
    have g3 : H4[5]? = some (.own 26 [.nils, .int .i64 0, .int .i64 0, .int .i64 0]) := rfl
    have s3 : H4.set 5 (.own 26 [.nils, .int .i64 0, .int .i64 0, .int .i64 0]) = H4 := rfl
    have j1 : callX C 6 [.s (.ptr 3 0)] H4 = some (.s .nils, H4) := run_call 50 rfl
    have j2 : callX C 7 [.s (.ptr 3 0)] H4 = some (.s .nils, H4) := run_call 50 rfl
    have j3 : callX C 8 [.s (.ptr 3 0)] H4 = some (.s .nils, H4) := run_call 50 rfl
    have j4 : callX C 9 [.s (.ptr 3 0)] H4 = some (.s .nils, H4) := run_call 50 rfl
    obtain ⟨h5, j5⟩ := trial4
    obtain ⟨h6, j6⟩ := wakes_ok h5
    by_cases h1 : p < 0
    · simp [new_ok, hr, l2, e3, g3, s3, j1, j2, j3, j4, j5, j6, h1]
      exact hΨ _ _ rfl
    · have h2 : 399 < p := by omega
      simp [new_ok, hr, l2, e3, g3, s3, j1, j2, j3, j4, j5, j6, h1, h2]
      exact hΨ _ _ rfl
end Go.Proofs.YtiljgimcipdadaaGreatDoor.Ev.CF
