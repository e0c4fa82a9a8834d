/- The heap only grows. -/
import Derived.Test.YtiljgimcipdadaaGreatDoorEvCode
set_option linter.unusedVariables false
set_option linter.unusedSimpArgs false
namespace Go.Proofs.YtiljgimcipdadaaGreatDoor.Ev
open Go

theorem app_grow {h h' : LH} {t z y n : Nat} {x : SV} {new : List SV} {v : FV} (he : appE h t z y x n new = some (v, h')) : h.length ≤ h'.length := by
  unfold appE at he
  (repeat' split at he) <;> simp at he <;> (try obtain ⟨_, rfl⟩ := he) <;> simp
theorem op_grow {fr : Fr} {h h' : LH} {op : EO} {v : FV} (he : opE fr h op = some (v, h')) : h.length ≤ h'.length := by
  cases op <;> first
    | (simp only [opE] at he
       (repeat' split at he) <;> (try simp_all [Option.map_eq_some_iff]) <;> first | exact app_grow he | grind)

def Grows (call : CallE) : Prop := ∀ f args h v h', call f args h = some (v, h') → h.length ≤ h'.length
theorem step_grow {call : CallE} (g : Grows call) {fr : Fr} {h h' : LH} {op : EO} {v : FV} (he : stepE call fr h op = some (v, h')) : h.length ≤ h'.length := by
  unfold stepE at he
  split at he
  · split at he
    · exact g _ _ _ _ _ he
    · cases he
  · exact op_grow he
theorem trace_grow {call : CallE} (g : Grows call) : ∀ (l : List EG) (fr : Fr) (h : LH) (tr : List (Option TE)) (fr' : Fr) (h' : LH), traceE call l fr h = some (tr, fr', h') → h.length ≤ h'.length
  | [], fr, h, tr, fr', h', he => by
    simp only [traceE, Option.some.injEq, Prod.mk.injEq] at he
    obtain ⟨_, _, rfl⟩ := he
    exact Nat.le_refl _
  | x :: l, fr, h, tr, fr', h', he => by
    simp only [traceE] at he
    split at he
    · split at he
      · rename_i v h1 hv
        obtain ⟨⟨tr1, fr1, h2⟩, h3, hq⟩ := Option.map_eq_some_iff.1 he
        simp only [Prod.mk.injEq] at hq
        obtain ⟨rfl, rfl, rfl⟩ := hq
        exact Nat.le_trans (step_grow g hv) (trace_grow g l _ _ _ _ _ h3)
      · cases he
    · obtain ⟨⟨tr1, fr1, h2⟩, h3, hq⟩ := Option.map_eq_some_iff.1 he
      simp only [Prod.mk.injEq] at hq
      obtain ⟨rfl, rfl, rfl⟩ := hq
      exact trace_grow g l _ _ _ _ _ h3
    · cases he
theorem draw_grow {call : CallE} (g : Grows call) {l : List EG} {ps : List (Nat × Nat)} {fr fr' : Fr} {h h' : LH} (he : drawE call l ps fr h = some (fr', h')) : h.length ≤ h'.length := by
  unfold drawE at he
  split at he
  · rename_i tr fr1 h1 htr
    split at he
    · simp only [Option.some.injEq, Prod.mk.injEq] at he
      obtain ⟨rfl, rfl⟩ := he
      exact trace_grow g _ _ _ _ _ _ htr
    · cases he
  · cases he
theorem loop_grow {body : Fr → LH → Out} (hb : ∀ fr h x fr' h', body fr h = some (x, fr', h') → h.length ≤ h'.length) (keep : List Nat) : ∀ (n : Nat) (fr : Fr) (h : LH) (x : Ex) (fr' : Fr) (h' : LH), loopN body keep n fr h = some (x, fr', h') → h.length ≤ h'.length
  | 0, _, _, _, _, _, he => by cases he
  | n + 1, fr, h, x, fr', h', he => by
    simp only [loopN] at he
    split at he
    · rename_i fr1 h1 h2
      exact Nat.le_trans (hb _ _ _ _ _ h2) (loop_grow hb keep n _ _ _ _ _ he)
    · exact hb _ _ _ _ _ he
theorem ops_grow {call : CallE} (g : Grows call) : ∀ (l : List EG) (fr : Fr) (h : LH) (fr' : Fr) (h' : LH), opsE call l fr h = some (fr', h') → h.length ≤ h'.length
  | [], fr, h, fr', h', he => by
    simp only [opsE, Option.some.injEq, Prod.mk.injEq] at he
    obtain ⟨_, rfl⟩ := he
    exact Nat.le_refl _
  | x :: l, fr, h, fr', h', he => by
    simp only [opsE] at he
    split at he
    · split at he
      · rename_i v h1 hv
        exact Nat.le_trans (step_grow g hv) (ops_grow g l _ _ _ _ he)
      · cases he
    · exact ops_grow g l _ _ _ _ he
    · cases he
theorem scope_grow {at' : Nat → Fr → LH → Out} (ha : ∀ l fr h x fr' h', at' l fr h = some (x, fr', h') → h.length ≤ h'.length) (has : Nat → Bool) : ∀ (n : Nat) (x : Ex) (fr : Fr) (h : LH) (x' : Ex) (fr' : Fr) (h' : LH), scopeN at' has n (some (x, fr, h)) = some (x', fr', h') → h.length ≤ h'.length := by
  intro n
  induction n with
  | zero =>
    intro x fr h x' fr' h' he
    unfold scopeN at he
    split at he
    · split at he
      · cases he
      · rename_i e _
        simp only [Option.some.injEq, Prod.mk.injEq] at e he
        obtain ⟨_, _, rfl⟩ := e
        obtain ⟨_, _, rfl⟩ := he
        exact Nat.le_refl _
    · simp only [Option.some.injEq, Prod.mk.injEq] at he
      obtain ⟨_, _, rfl⟩ := he
      exact Nat.le_refl _
  | succ n ih =>
    intro x fr h x' fr' h' he
    unfold scopeN at he
    split at he
    · rename_i l fr0 h0 e
      simp only [Option.some.injEq, Prod.mk.injEq] at e
      obtain ⟨_, _, rfl⟩ := e
      split at he
      · cases hr : at' l fr0 h with
        | none => rw [hr] at he; unfold scopeN at he; cases he
        | some r =>
          obtain ⟨x1, fr1, h1⟩ := r
          rw [hr] at he
          exact Nat.le_trans (ha _ _ _ _ _ _ hr) (ih _ _ _ _ _ _ he)
      · simp only [Option.some.injEq, Prod.mk.injEq] at he
        obtain ⟨_, _, rfl⟩ := he
        exact Nat.le_refl _
    · simp only [Option.some.injEq, Prod.mk.injEq] at he
      obtain ⟨_, _, rfl⟩ := he
      exact Nat.le_refl _
theorem code_grow' {call : CallE} (g : Grows call) (n : Nat) : ∀ (c : EC), (∀ (fr : Fr) (h : LH) (x : Ex) (fr' : Fr) (h' : LH), codeE call n c fr h = some (x, fr', h') → h.length ≤ h'.length) ∧ ∀ (l : Nat) (fr : Fr) (h : LH) (x : Ex) (fr' : Fr) (h' : LH), codeAt call n c l fr h = some (x, fr', h') → h.length ≤ h'.length := by
  intro c
  induction c with
  | skip => refine ⟨?_, fun l fr h x fr' h' he => by simp only [codeAt] at he; cases he⟩; intro fr h x fr' h' he; simp only [codeE, Option.some.injEq, Prod.mk.injEq] at he; obtain ⟨_, _, rfl⟩ := he; exact Nat.le_refl _
  | label l' =>
    refine ⟨?_, fun l fr h x fr' h' he => ?_⟩
    · intro fr h x fr' h' he; simp only [codeE, Option.some.injEq, Prod.mk.injEq] at he; obtain ⟨_, _, rfl⟩ := he; exact Nat.le_refl _
    · simp only [codeAt] at he
      split at he
      · simp only [Option.some.injEq, Prod.mk.injEq] at he; obtain ⟨_, _, rfl⟩ := he; exact Nat.le_refl _
      · cases he
  | ops l keep =>
    refine ⟨?_, fun l fr h x fr' h' he => by simp only [codeAt] at he; cases he⟩
    intro fr h x fr' h' he
    simp only [codeE] at he
    obtain ⟨⟨f1, h1⟩, h2, e⟩ := Option.map_eq_some_iff.1 he
    simp only [Prod.mk.injEq] at e
    obtain ⟨_, _, rfl⟩ := e
    exact ops_grow g _ _ _ _ _ h2
  | draw l ps keep =>
    refine ⟨?_, fun l fr h x fr' h' he => by simp only [codeAt] at he; cases he⟩
    intro fr h x fr' h' he
    simp only [codeE] at he
    obtain ⟨⟨f1, h1⟩, h2, e⟩ := Option.map_eq_some_iff.1 he
    simp only [Prod.mk.injEq] at e
    obtain ⟨_, _, rfl⟩ := e
    exact draw_grow g h2
  | seq a b iha ihb =>
    refine ⟨fun fr h x fr' h' he => ?_, fun l fr h x fr' h' he => ?_⟩
    · simp only [codeE] at he
      split at he
      · rename_i f1 h1 h2
        exact Nat.le_trans (iha.1 _ _ _ _ _ h2) (ihb.1 _ _ _ _ _ he)
      · exact iha.1 _ _ _ _ _ he
    · simp only [codeAt] at he
      split at he
      · split at he
        · rename_i f1 h1 h2
          exact Nat.le_trans (iha.2 _ _ _ _ _ _ h2) (ihb.1 _ _ _ _ _ he)
        · exact iha.2 _ _ _ _ _ _ he
      · exact ihb.2 _ _ _ _ _ _ he
  | cond c a b iha ihb =>
    refine ⟨?_, fun l fr h x fr' h' he => by simp only [codeAt] at he; cases he⟩
    intro fr h x fr' h' he
    simp only [codeE] at he
    split at he
    · split at he
      · exact iha.1 _ _ _ _ _ he
      · exact ihb.1 _ _ _ _ _ he
    · cases he
  | block id b ih =>
    refine ⟨?_, fun l fr h x fr' h' he => by simp only [codeAt] at he; cases he⟩
    intro fr h x fr' h' he
    simp only [codeE] at he
    split at he
    · rename_i id' f1 h1 h2
      have := ih.1 _ _ _ _ _ h2
      split at he <;> (simp only [Option.some.injEq, Prod.mk.injEq] at he; obtain ⟨_, _, rfl⟩ := he; exact this)
    · exact ih.1 _ _ _ _ _ he
  | loop keep b ih =>
    refine ⟨?_, fun l fr h x fr' h' he => by simp only [codeAt] at he; cases he⟩
    intro fr h x fr' h' he
    simp only [codeE] at he
    exact loop_grow ih.1 keep n _ _ _ _ _ he
  | exit id keep => refine ⟨?_, fun l fr h x fr' h' he => by simp only [codeAt] at he; cases he⟩; intro fr h x fr' h' he; simp only [codeE, Option.some.injEq, Prod.mk.injEq] at he; obtain ⟨_, _, rfl⟩ := he; exact Nat.le_refl _
  | ret keep => refine ⟨?_, fun l fr h x fr' h' he => by simp only [codeAt] at he; cases he⟩; intro fr h x fr' h' he; simp only [codeE, Option.some.injEq, Prod.mk.injEq] at he; obtain ⟨_, _, rfl⟩ := he; exact Nat.le_refl _
  | goto l keep => refine ⟨?_, fun l fr h x fr' h' he => by simp only [codeAt] at he; cases he⟩; intro fr h x fr' h' he; simp only [codeE, Option.some.injEq, Prod.mk.injEq] at he; obtain ⟨_, _, rfl⟩ := he; exact Nat.le_refl _
  | scope b ih =>
    refine ⟨?_, fun l fr h x fr' h' he => by simp only [codeAt] at he; cases he⟩
    intro fr h x fr' h' he
    simp only [codeE] at he
    cases hr : codeE call n b fr h with
    | none => rw [hr] at he; unfold scopeN at he; cases he
    | some r =>
      obtain ⟨x1, fr1, h1⟩ := r
      rw [hr] at he
      exact Nat.le_trans (ih.1 _ _ _ _ _ hr) (scope_grow ih.2 _ n _ _ _ _ _ _ he)
  | ext k m f =>
    refine ⟨?_, fun l fr h x fr' h' he => by simp only [codeAt] at he; cases he⟩
    intro fr h x fr' h' he
    simp only [codeE, extE] at he
    split at he
    · split at he
      · split at he
        · rename_i hl
          simp only [Option.some.injEq, Prod.mk.injEq] at he
          obtain ⟨_, _, rfl⟩ := he
          exact hl
        · cases he
      · cases he
    · cases he
theorem code_grow {call : CallE} (g : Grows call) (n : Nat) (c : EC) (fr : Fr) (h : LH) (x : Ex) (fr' : Fr) (h' : LH) (he : codeE call n c fr h = some (x, fr', h')) : h.length ≤ h'.length := (code_grow' g n c).1 fr h x fr' h' he
theorem pack_heap {l : Option (List FV)} {h h' : LH} {v : FV} (he : packL l h = some (v, h')) : h' = h := by
  unfold packL at he
  split at he
  · split at he
    · simp only [Option.some.injEq, Prod.mk.injEq] at he; exact he.2.symm
    · cases he
  · cases he
theorem callE_grow (C : Nat → Option EF) : ∀ n, Grows (callE C n)
  | 0 => fun f args h v h' he => by simp only [callE] at he; cases he
  | n + 1 => fun f args h v h' he => by
    simp only [callE] at he
    split at he
    · cases he
    · split at he
      · split at he
        · rename_i f1 h1 h2
          rw [pack_heap he]; exact code_grow (callE_grow C n) n _ _ _ _ _ _ h2
        · rename_i f1 h1 h2
          rw [pack_heap he]; exact code_grow (callE_grow C n) n _ _ _ _ _ _ h2
        · cases he
      · cases he
end Go.Proofs.YtiljgimcipdadaaGreatDoor.Ev
