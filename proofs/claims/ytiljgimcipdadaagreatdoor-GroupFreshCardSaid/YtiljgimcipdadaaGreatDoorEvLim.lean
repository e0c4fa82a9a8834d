/- The small machine without bounds: a loop goes on as long as it does, a call goes as deep as it does. -/
import Derived.Test.YtiljgimcipdadaaGreatDoorEvCode2
set_option linter.unusedVariables false
set_option linter.unusedSimpArgs false
namespace Go.Proofs.YtiljgimcipdadaaGreatDoor.Ev
open Go Go.RowKit

open Classical in
noncomputable def lim {α : Type} (f : Nat → Option α) : Option α :=
  if h : ∃ n, (f n).isSome = true then f h.choose else none

theorem lim_some {α : Type} {f : Nat → Option α} {r : α} (h : lim f = some r) : ∃ n, f n = some r := by
  unfold lim at h
  split at h
  · rename_i hx; exact ⟨_, h⟩
  · cases h

theorem lim_of {α : Type} {f : Nat → Option α} (hm : ∀ n r, f n = some r → f (n + 1) = some r) {n : Nat} {r : α} (h : f n = some r) : lim f = some r := by
  have hm' : ∀ k n r, f n = some r → f (n + k) = some r := by
    intro k
    induction k with
    | zero => intro n r h; exact h
    | succ k ih => intro n r h; exact hm _ _ (ih n r h)
  have hx : ∃ n, (f n).isSome = true := ⟨n, by rw [h]; rfl⟩
  unfold lim
  rw [dif_pos hx]
  obtain ⟨r', hr'⟩ := Option.isSome_iff_exists.1 hx.choose_spec
  have a := hm' n _ _ hr'
  have b := hm' hx.choose _ _ h
  rw [Nat.add_comm] at b
  rw [hr', ← a, b]

theorem fget_keepF {keep : List Nat} {fr : Fr} {n : Nat} (hn : n ∈ keep) : fget (keepF keep fr) n = fget fr n := by
  induction keep with
  | nil => cases hn
  | cons k r ih =>
    simp only [keepF, List.map_cons, fget]
    by_cases e : n = k
    · rw [if_pos e, e]
    · rw [if_neg e]
      exact ih ((List.mem_cons.1 hn).resolve_left e)

theorem keepF_keepF (keep : List Nat) (fr : Fr) : keepF keep (keepF keep fr) = keepF keep fr := by
  show keep.map _ = keep.map _
  exact List.map_congr_left fun n hn => by rw [fget_keepF hn]

theorem loopN_keep {body : Fr → LH → Out} {keep : List Nat} : ∀ (n : Nat) (fr : Fr) (h : LH), loopN body keep n (keepF keep fr) h = loopN body keep n fr h
  | 0, fr, h => rfl
  | n + 1, fr, h => by simp only [loopN, keepF_keepF]

noncomputable def loopX (body : Fr → LH → Out) (keep : List Nat) (fr : Fr) (h : LH) : Out := lim fun n => loopN body keep n fr h

mutual
noncomputable def codeL (call : CallE) : EC → Fr → LH → Out
  | .skip, fr, h => some (.normal, fr, h)
  | .label _, fr, h => some (.normal, fr, h)
  | .ops l keep, fr, h => (opsE call l fr h).map fun x => (.normal, keepF keep x.1, x.2)
  | .draw l ps keep, fr, h => (drawE call l ps fr h).map fun x => (.normal, keepF keep x.1, x.2)
  | .seq a b, fr, h =>
    match codeL call a fr h with
    | some (.normal, fr', h') => codeL call b fr' h'
    | r => r
  | .cond c a b, fr, h =>
    match odS fr c with
    | some (.bool t) => if t then codeL call a fr h else codeL call b fr h
    | _ => none
  | .block id b, fr, h =>
    match codeL call b fr h with
    | some (.exit id', fr', h') => if id' = id then some (.normal, fr', h') else some (.exit id', fr', h')
    | r => r
  | .loop keep b, fr, h => loopX (codeL call b) keep (keepF keep fr) h
  | .exit id keep, fr, h => some (.exit id, keepF keep fr, h)
  | .ret keep, fr, h => some (.ret, keepF keep fr, h)
  | .goto l keep, fr, h => some (.goto l, keepF keep fr, h)
  | .scope b, fr, h => lim fun n => scopeN (codeAtL call b) (hasL b) n (codeL call b fr h)
  | .ext k m g, fr, h => extE k m g fr h
noncomputable def codeAtL (call : CallE) : EC → Nat → Fr → LH → Out
  | .seq a b, l, fr, h =>
    if hasL a l then match codeAtL call a l fr h with
    | some (.normal, fr', h') => codeL call b fr' h'
    | r => r
    else codeAtL call b l fr h
  | .label l', l, fr, h => if l' == l then some (.normal, fr, h) else none
  | _, _, _, _ => none
end

theorem scopeN_mono {at1 at2 : Nat → Fr → LH → Out} (ha : ∀ l fr h r, at1 l fr h = some r → at2 l fr h = some r) (has : Nat → Bool) : ∀ (n m : Nat), n ≤ m → ∀ (x : Ex × Fr × LH) (r : Ex × Fr × LH), scopeN at1 has n (some x) = some r → scopeN at2 has m (some x) = some r := by
  intro n
  induction n with
  | zero =>
    intro m hm x r he
    unfold scopeN at he ⊢
    split at he
    · rename_i l fr h e
      obtain rfl := Option.some.inj e
      split at he
      · cases he
      · rename_i hl
        simp only [hl, Bool.false_eq_true, if_false]; exact he
    · exact he
  | succ n ih =>
    intro m hm x r he
    unfold scopeN at he ⊢
    split at he
    · rename_i l fr h e
      obtain rfl := Option.some.inj e
      split at he
      · rename_i hl
        simp only [hl, if_true]
        cases m with
        | zero => omega
        | succ m =>
          cases hr : at1 l fr h with
          | none => rw [hr] at he; unfold scopeN at he; cases he
          | some y =>
            rw [hr] at he
            simp only [ha _ _ _ _ hr]
            exact ih m (by omega) y r he
      · rename_i hl
        simp only [hl, Bool.false_eq_true, if_false]; exact he
    · exact he

noncomputable def callX (C : Nat → Option EF) : CallE := fun f args h => lim fun n => callE C n f args h

/-- One machine's answers are another's too. -/
def CallLe (c c' : CallE) : Prop := ∀ f args h r, c f args h = some r → c' f args h = some r

theorem stepE_mono {c c' : CallE} (hc : CallLe c c') {fr : Fr} {h : LH} {o : EO} {r : FV × LH} (he : stepE c fr h o = some r) : stepE c' fr h o = some r := by
  unfold stepE at he ⊢
  split at he
  · rename_i hi
    rw [if_pos hi]
    split at he
    · exact hc _ _ _ _ he
    · cases he
  · rename_i hi
    rw [if_neg hi]; exact he

theorem opsE_mono {c c' : CallE} (hc : CallLe c c') : ∀ (l : List EG) (fr : Fr) (h : LH) (r : Fr × LH), opsE c l fr h = some r → opsE c' l fr h = some r
  | [], fr, h, r, he => he
  | g :: l, fr, h, r, he => by
    simp only [opsE] at he ⊢
    split at he
    · rename_i hw
      split at he
      · rename_i v h1 hs
        rw [stepE_mono hc hs]
        exact opsE_mono hc l _ _ r he
      · cases he
    · rename_i hw
      exact opsE_mono hc l _ _ r he
    · cases he

theorem traceE_mono {c c' : CallE} (hc : CallLe c c') : ∀ (l : List EG) (fr : Fr) (h : LH) (r : List (Option TE) × Fr × LH), traceE c l fr h = some r → traceE c' l fr h = some r
  | [], fr, h, r, he => he
  | g :: l, fr, h, r, he => by
    simp only [traceE] at he ⊢
    split at he
    · rename_i hw
      split at he
      · rename_i v h1 hs
        rw [stepE_mono hc hs]
        obtain ⟨x, hx, rfl⟩ := Option.map_eq_some_iff.1 he
        simp only [traceE_mono hc l _ _ x hx, Option.map_some]
      · cases he
    · rename_i hw
      obtain ⟨x, hx, rfl⟩ := Option.map_eq_some_iff.1 he
      simp only [traceE_mono hc l _ _ x hx, Option.map_some]
    · cases he

theorem okPair_mono {c c' : CallE} (hc : CallLe c c') {tr : List (Option TE)} {p : Nat × Nat} (h : okPair c tr p) : okPair c' tr p := by
  unfold okPair at h ⊢
  split at h
  · rename_i x y h1 h2
    exact h.imp id fun h => h.imp (fun ⟨a, b, c⟩ => ⟨stepE_mono hc a, stepE_mono hc b, c⟩) id
  · trivial
  · exact h.elim

theorem okPairs_mono {c c' : CallE} (hc : CallLe c c') {tr : List (Option TE)} : ∀ {l : List (Nat × Nat)}, okPairs c tr l → okPairs c' tr l
  | [], _ => trivial
  | p :: l, h => ⟨okPair_mono hc h.1, okPairs_mono hc h.2⟩

theorem drawE_mono {c c' : CallE} (hc : CallLe c c') {l : List EG} {ps : List (Nat × Nat)} {fr : Fr} {h : LH} {r : Fr × LH} (he : drawE c l ps fr h = some r) : drawE c' l ps fr h = some r := by
  unfold drawE at he ⊢
  split at he
  · rename_i tr fr1 h1 ht
    rw [traceE_mono hc _ _ _ _ ht]
    split at he
    · rename_i hp
      simp only
      rw [if_pos (okPairs_mono hc hp)]; exact he
    · cases he
  · cases he

theorem loopN_mono {b b' : Fr → LH → Out} (hb : ∀ fr h r, b fr h = some r → b' fr h = some r) {keep : List Nat} : ∀ {n n' : Nat}, n ≤ n' → ∀ {fr : Fr} {h : LH} {r : Ex × Fr × LH}, loopN b keep n fr h = some r → loopN b' keep n' fr h = some r
  | 0, _, _, fr, h, r, he => by cases he
  | n + 1, 0, hn, _, _, _, _ => by omega
  | n + 1, n' + 1, hn, fr, h, r, he => by
    simp only [loopN] at he ⊢
    split at he
    · rename_i fr' h' h1
      rw [hb _ _ _ h1]
      exact loopN_mono hb (by omega) he
    · rename_i hne
      rw [hb _ _ _ he]
      split
      · rename_i hq
        exact absurd (he.trans hq) (hne _ _)
      · rfl

theorem codeE_mono' {c c' : CallE} (hc : CallLe c c') {n n' : Nat} (hn : n ≤ n') : ∀ (e : EC), (∀ (fr : Fr) (h : LH) (r : Ex × Fr × LH), codeE c n e fr h = some r → codeE c' n' e fr h = some r) ∧ ∀ (l : Nat) (fr : Fr) (h : LH) (r : Ex × Fr × LH), codeAt c n e l fr h = some r → codeAt c' n' e l fr h = some r := by
  intro e
  induction e with
  | skip => refine ⟨?_, fun l fr h r he => by simp only [codeAt] at he; cases he⟩; intro fr h r he; simp only [codeE] at he ⊢; exact he
  | label l' =>
    refine ⟨fun fr h r he => ?_, fun l fr h r he => ?_⟩
    · simp only [codeE] at he ⊢; exact he
    · simp only [codeAt] at he ⊢; exact he
  | ops l keep =>
    refine ⟨?_, fun l fr h r he => by simp only [codeAt] at he; cases he⟩
    intro fr h r he
    simp only [codeE] at he ⊢
    obtain ⟨x, hx, rfl⟩ := Option.map_eq_some_iff.1 he
    rw [opsE_mono hc _ _ _ _ hx]; rfl
  | draw l ps keep =>
    refine ⟨?_, fun l fr h r he => by simp only [codeAt] at he; cases he⟩
    intro fr h r he
    simp only [codeE] at he ⊢
    obtain ⟨x, hx, rfl⟩ := Option.map_eq_some_iff.1 he
    rw [drawE_mono hc hx]; rfl
  | seq a b iha ihb =>
    refine ⟨fun fr h r he => ?_, fun l fr h r he => ?_⟩
    · simp only [codeE] at he ⊢
      split at he
      · rename_i fr' h' h1
        rw [iha.1 _ _ _ h1]; exact ihb.1 _ _ _ he
      · rename_i hne
        rw [iha.1 _ _ _ he]
        split
        · rename_i hq; exact absurd (he.trans hq) (hne _ _)
        · rfl
    · simp only [codeAt] at he ⊢
      split at he
      · rename_i hl
        rw [if_pos hl]
        split at he
        · rename_i fr' h' h1
          rw [iha.2 _ _ _ _ h1]; exact ihb.1 _ _ _ he
        · rename_i hne
          rw [iha.2 _ _ _ _ he]
          split
          · rename_i hq; exact absurd (he.trans hq) (hne _ _)
          · rfl
      · rename_i hl
        rw [if_neg hl]; exact ihb.2 _ _ _ _ he
  | cond x a b iha ihb =>
    refine ⟨?_, fun l fr h r he => by simp only [codeAt] at he; cases he⟩
    intro fr h r he
    simp only [codeE] at he ⊢
    split at he
    · rename_i t ht
      cases t with
      | true => exact iha.1 _ _ _ he
      | false => exact ihb.1 _ _ _ he
    · cases he
  | block id b ih =>
    refine ⟨?_, fun l fr h r he => by simp only [codeAt] at he; cases he⟩
    intro fr h r he
    simp only [codeE] at he ⊢
    split at he
    · rename_i id' fr' h' h1
      rw [ih.1 _ _ _ h1]; exact he
    · rename_i hne
      rw [ih.1 _ _ _ he]
      split
      · rename_i hq; exact absurd (he.trans hq) (hne _ _ _)
      · rfl
  | loop keep b ih =>
    refine ⟨?_, fun l fr h r he => by simp only [codeAt] at he; cases he⟩
    intro fr h r he
    simp only [codeE] at he ⊢
    exact loopN_mono ih.1 hn he
  | exit id keep => refine ⟨?_, fun l fr h r he => by simp only [codeAt] at he; cases he⟩; intro fr h r he; simp only [codeE] at he ⊢; exact he
  | ret keep => refine ⟨?_, fun l fr h r he => by simp only [codeAt] at he; cases he⟩; intro fr h r he; simp only [codeE] at he ⊢; exact he
  | goto l keep => refine ⟨?_, fun l fr h r he => by simp only [codeAt] at he; cases he⟩; intro fr h r he; simp only [codeE] at he ⊢; exact he
  | scope b ih =>
    refine ⟨?_, fun l fr h r he => by simp only [codeAt] at he; cases he⟩
    intro fr h r he
    simp only [codeE] at he ⊢
    cases hr : codeE c n b fr h with
    | none => rw [hr] at he; unfold scopeN at he; cases he
    | some y =>
      rw [hr] at he
      rw [ih.1 _ _ _ hr]
      exact scopeN_mono ih.2 _ n n' hn y r he
  | ext k m f => refine ⟨?_, fun l fr h r he => by simp only [codeAt] at he; cases he⟩; intro fr h r he; simp only [codeE] at he ⊢; exact he

theorem codeE_mono {c c' : CallE} (hc : CallLe c c') {n n' : Nat} (hn : n ≤ n') (e : EC) (fr : Fr) (h : LH) (r : Ex × Fr × LH) (he : codeE c n e fr h = some r) : codeE c' n' e fr h = some r := (codeE_mono' hc hn e).1 fr h r he
theorem codeAt_mono {c c' : CallE} (hc : CallLe c c') {n n' : Nat} (hn : n ≤ n') (e : EC) (l : Nat) (fr : Fr) (h : LH) (r : Ex × Fr × LH) (he : codeAt c n e l fr h = some r) : codeAt c' n' e l fr h = some r := (codeE_mono' hc hn e).2 l fr h r he

theorem callE_mono (C : Nat → Option EF) : ∀ n, CallLe (callE C n) (callE C (n + 1))
  | 0 => fun f args h r he => by cases he
  | n + 1 => fun f args h r he => by
    rw [callE] at he ⊢
    split at he
    · cases he
    · rename_i e hf
      split at he
      · rename_i hle
        rw [if_pos hle]
        split at he
        · rename_i fr h1 h2
          rw [codeE_mono (callE_mono C n) (Nat.le_succ n) _ _ _ _ h2]; exact he
        · rename_i fr h1 h2
          rw [codeE_mono (callE_mono C n) (Nat.le_succ n) _ _ _ _ h2]; exact he
        · cases he
      · cases he

theorem CallLe.trans {a b c : CallE} (h1 : CallLe a b) (h2 : CallLe b c) : CallLe a c := fun f args h r he => h2 _ _ _ _ (h1 _ _ _ _ he)

theorem callE_le (C : Nat → Option EF) {n m : Nat} (h : n ≤ m) : CallLe (callE C n) (callE C m) := by
  induction h with
  | refl => exact fun _ _ _ _ h => h
  | step _ ih => exact ih.trans (callE_mono C _)

theorem callX_some {C : Nat → Option EF} {f : Nat} {args : List FV} {h : LH} {r : FV × LH} (he : callX C f args h = some r) : ∃ n, ∀ m, n ≤ m → callE C m f args h = some r := by
  obtain ⟨n, hn⟩ := lim_some he
  exact ⟨n, fun m hm => callE_le C hm _ _ _ _ hn⟩

theorem callX_of {C : Nat → Option EF} {f : Nat} {args : List FV} {h : LH} {r : FV × LH} {n : Nat} (he : callE C n f args h = some r) : callX C f args h = some r :=
  lim_of (fun n r h => callE_mono C n _ _ _ _ h) he

/-! ### What is told without bounds is told with some -/
section
variable {C : Nat → Option EF}

theorem stepE_appr {fr : Fr} {h : LH} {o : EO} {r : FV × LH} (he : stepE (callX C) fr h o = some r) : ∃ n, ∀ m, n ≤ m → stepE (callE C m) fr h o = some r := by
  unfold stepE at he ⊢
  split at he
  · rename_i hi
    split at he
    · rename_i f args hq
      obtain ⟨n, hn⟩ := callX_some he
      exact ⟨n, fun m hm => by rw [if_pos hi, hn m hm]⟩
    · cases he
  · rename_i hi
    exact ⟨0, fun m _ => by rw [if_neg hi]; exact he⟩

theorem opsE_appr : ∀ (l : List EG) (fr : Fr) (h : LH) (r : Fr × LH), opsE (callX C) l fr h = some r → ∃ n, ∀ m, n ≤ m → opsE (callE C m) l fr h = some r
  | [], fr, h, r, he => ⟨0, fun _ _ => he⟩
  | g :: l, fr, h, r, he => by
    simp only [opsE] at he ⊢
    split at he
    · rename_i hw
      split at he
      · rename_i v h1 hs
        obtain ⟨n1, q1⟩ := stepE_appr hs
        obtain ⟨n2, q2⟩ := opsE_appr l _ _ r he
        exact ⟨max n1 n2, fun m hm => by rw [q1 m (by omega)]; exact q2 m (by omega)⟩
      · cases he
    · rename_i hw
      exact opsE_appr l _ _ r he
    · cases he

theorem traceE_appr : ∀ (l : List EG) (fr : Fr) (h : LH) (r : List (Option TE) × Fr × LH), traceE (callX C) l fr h = some r → ∃ n, ∀ m, n ≤ m → traceE (callE C m) l fr h = some r
  | [], fr, h, r, he => ⟨0, fun _ _ => he⟩
  | g :: l, fr, h, r, he => by
    simp only [traceE] at he ⊢
    split at he
    · rename_i hw
      split at he
      · rename_i v h1 hs
        obtain ⟨x, hx, rfl⟩ := Option.map_eq_some_iff.1 he
        obtain ⟨n1, q1⟩ := stepE_appr hs
        obtain ⟨n2, q2⟩ := traceE_appr l _ _ x hx
        exact ⟨max n1 n2, fun m hm => by rw [q1 m (by omega)]; simp only [q2 m (by omega), Option.map_some]⟩
      · cases he
    · rename_i hw
      obtain ⟨x, hx, rfl⟩ := Option.map_eq_some_iff.1 he
      obtain ⟨n2, q2⟩ := traceE_appr l _ _ x hx
      exact ⟨n2, fun m hm => by simp only [q2 m hm, Option.map_some]⟩
    · cases he

theorem okPair_appr {tr : List (Option TE)} {p : Nat × Nat} (h : okPair (callX C) tr p) : ∃ n, ∀ m, n ≤ m → okPair (callE C m) tr p := by
  unfold okPair at h ⊢
  split at h
  · rename_i x y h1 h2
    rcases h with h | ⟨a, b, c⟩ | h
    · exact ⟨0, fun _ _ => .inl h⟩
    · obtain ⟨n1, q1⟩ := stepE_appr a
      obtain ⟨n2, q2⟩ := stepE_appr b
      exact ⟨max n1 n2, fun m hm => .inr (.inl ⟨q1 m (by omega), q2 m (by omega), c⟩)⟩
    · exact ⟨0, fun _ _ => .inr (.inr h)⟩
  · exact ⟨0, fun _ _ => trivial⟩
  · exact h.elim

theorem okPairs_appr {tr : List (Option TE)} : ∀ {l : List (Nat × Nat)}, okPairs (callX C) tr l → ∃ n, ∀ m, n ≤ m → okPairs (callE C m) tr l
  | [], _ => ⟨0, fun _ _ => trivial⟩
  | p :: l, h => by
    obtain ⟨n1, q1⟩ := okPair_appr h.1
    obtain ⟨n2, q2⟩ := okPairs_appr h.2
    exact ⟨max n1 n2, fun m hm => ⟨q1 m (by omega), q2 m (by omega)⟩⟩

theorem drawE_appr {l : List EG} {ps : List (Nat × Nat)} {fr : Fr} {h : LH} {r : Fr × LH} (he : drawE (callX C) l ps fr h = some r) : ∃ n, ∀ m, n ≤ m → drawE (callE C m) l ps fr h = some r := by
  unfold drawE at he
  split at he
  · rename_i tr fr1 h1 ht
    split at he
    · rename_i hp
      obtain ⟨n1, q1⟩ := traceE_appr _ _ _ _ ht
      obtain ⟨n2, q2⟩ := okPairs_appr hp
      refine ⟨max n1 n2, fun m hm => ?_⟩
      unfold drawE
      rw [q1 m (by omega)]
      simp only
      rw [if_pos (q2 m (by omega))]; exact he
    · cases he
  · cases he

theorem codeL_appr' : ∀ (e : EC), (∀ (fr : Fr) (h : LH) (r : Ex × Fr × LH), codeL (callX C) e fr h = some r → ∃ n, ∀ m, n ≤ m → codeE (callE C m) m e fr h = some r) ∧ ∀ (l : Nat) (fr : Fr) (h : LH) (r : Ex × Fr × LH), codeAtL (callX C) e l fr h = some r → ∃ n, ∀ m, n ≤ m → codeAt (callE C m) m e l fr h = some r := by
  intro e
  induction e with
  | skip => refine ⟨?_, fun l fr h r he => by simp only [codeAtL] at he; cases he⟩; intro fr h r he; simp only [codeL] at he; exact ⟨0, fun _ _ => by simp only [codeE]; exact he⟩
  | label l' =>
    refine ⟨fun fr h r he => ?_, fun l fr h r he => ?_⟩
    · simp only [codeL] at he; exact ⟨0, fun _ _ => by simp only [codeE]; exact he⟩
    · simp only [codeAtL] at he; exact ⟨0, fun _ _ => by simp only [codeAt]; exact he⟩
  | ops l keep =>
    refine ⟨?_, fun l fr h r he => by simp only [codeAtL] at he; cases he⟩
    intro fr h r he
    simp only [codeL] at he
    obtain ⟨x, hx, rfl⟩ := Option.map_eq_some_iff.1 he
    obtain ⟨n, hn⟩ := opsE_appr _ _ _ _ hx
    exact ⟨n, fun m hm => by simp only [codeE, hn m hm, Option.map_some]⟩
  | draw l ps keep =>
    refine ⟨?_, fun l fr h r he => by simp only [codeAtL] at he; cases he⟩
    intro fr h r he
    simp only [codeL] at he
    obtain ⟨x, hx, rfl⟩ := Option.map_eq_some_iff.1 he
    obtain ⟨n, hn⟩ := drawE_appr hx
    exact ⟨n, fun m hm => by simp only [codeE, hn m hm, Option.map_some]⟩
  | seq a b iha ihb =>
    refine ⟨fun fr h r he => ?_, fun l fr h r he => ?_⟩
    · simp only [codeL] at he
      split at he
      · rename_i fr' h' h1
        obtain ⟨n1, q1⟩ := iha.1 _ _ _ h1
        obtain ⟨n2, q2⟩ := ihb.1 _ _ _ he
        exact ⟨max n1 n2, fun m hm => by simp only [codeE, q1 m (by omega)]; exact q2 m (by omega)⟩
      · rename_i hne
        obtain ⟨n1, q1⟩ := iha.1 _ _ _ he
        refine ⟨n1, fun m hm => ?_⟩
        simp only [codeE]
        rw [q1 m hm]
        split
        · rename_i hq; exact absurd (he.trans hq) (hne _ _)
        · rfl
    · simp only [codeAtL] at he
      split at he
      · rename_i hl
        split at he
        · rename_i fr' h' h1
          obtain ⟨n1, q1⟩ := iha.2 _ _ _ _ h1
          obtain ⟨n2, q2⟩ := ihb.1 _ _ _ he
          exact ⟨max n1 n2, fun m hm => by simp only [codeAt, if_pos hl, q1 m (by omega)]; exact q2 m (by omega)⟩
        · rename_i hne
          obtain ⟨n1, q1⟩ := iha.2 _ _ _ _ he
          refine ⟨n1, fun m hm => ?_⟩
          simp only [codeAt, if_pos hl]
          rw [q1 m hm]
          split
          · rename_i hq; exact absurd (he.trans hq) (hne _ _)
          · rfl
      · rename_i hl
        obtain ⟨n1, q1⟩ := ihb.2 _ _ _ _ he
        exact ⟨n1, fun m hm => by simp only [codeAt, if_neg hl]; exact q1 m hm⟩
  | cond x a b iha ihb =>
    refine ⟨?_, fun l fr h r he => by simp only [codeAtL] at he; cases he⟩
    intro fr h r he
    simp only [codeL] at he
    split at he
    · rename_i t ht
      cases t with
      | true =>
        obtain ⟨n, hn⟩ := iha.1 _ _ _ he
        exact ⟨n, fun m hm => by simp only [codeE, ht]; exact hn m hm⟩
      | false =>
        obtain ⟨n, hn⟩ := ihb.1 _ _ _ he
        exact ⟨n, fun m hm => by simp only [codeE, ht]; exact hn m hm⟩
    · cases he
  | block id b ih =>
    refine ⟨?_, fun l fr h r he => by simp only [codeAtL] at he; cases he⟩
    intro fr h r he
    simp only [codeL] at he
    split at he
    · rename_i id' fr' h' h1
      obtain ⟨n, hn⟩ := ih.1 _ _ _ h1
      exact ⟨n, fun m hm => by simp only [codeE, hn m hm]; exact he⟩
    · rename_i hne
      obtain ⟨n, hn⟩ := ih.1 _ _ _ he
      refine ⟨n, fun m hm => ?_⟩
      simp only [codeE]
      rw [hn m hm]
      split
      · rename_i hq; exact absurd (he.trans hq) (hne _ _ _)
      · rfl
  | loop keep b ih =>
    refine ⟨?_, fun l fr h r he => by simp only [codeAtL] at he; cases he⟩
    intro fr h r he
    simp only [codeL] at he
    obtain ⟨k, hk⟩ := lim_some he
    rw [loopN_keep] at hk
    have key : ∀ (k : Nat) (fr : Fr) (h : LH), loopN (codeL (callX C) b) keep k fr h = some r → ∃ n, ∀ m, n ≤ m → loopN (codeE (callE C m) m b) keep k fr h = some r := by
      intro k
      induction k with
      | zero => intro fr h he; cases he
      | succ k ihk =>
        intro fr h he
        simp only [loopN] at he
        split at he
        · rename_i fr' h' h1
          obtain ⟨n1, q1⟩ := ih.1 _ _ _ h1
          obtain ⟨n2, q2⟩ := ihk _ _ he
          exact ⟨max n1 n2, fun m hm => by simp only [loopN, q1 m (by omega)]; exact q2 m (by omega)⟩
        · rename_i hne
          obtain ⟨n1, q1⟩ := ih.1 _ _ _ he
          refine ⟨n1, fun m hm => ?_⟩
          simp only [loopN]
          rw [q1 m hm]
          split
          · rename_i hq; exact absurd (he.trans hq) (hne _ _)
          · rfl
    obtain ⟨n, hn⟩ := key k fr h hk
    refine ⟨max n k, fun m hm => ?_⟩
    simp only [codeE]
    exact loopN_mono (fun _ _ _ h => h) (by omega) (hn m (by omega))
  | exit id keep => refine ⟨?_, fun l fr h r he => by simp only [codeAtL] at he; cases he⟩; intro fr h r he; simp only [codeL] at he; exact ⟨0, fun _ _ => by simp only [codeE]; exact he⟩
  | ret keep => refine ⟨?_, fun l fr h r he => by simp only [codeAtL] at he; cases he⟩; intro fr h r he; simp only [codeL] at he; exact ⟨0, fun _ _ => by simp only [codeE]; exact he⟩
  | goto l keep => refine ⟨?_, fun l fr h r he => by simp only [codeAtL] at he; cases he⟩; intro fr h r he; simp only [codeL] at he; exact ⟨0, fun _ _ => by simp only [codeE]; exact he⟩
  | scope b ih =>
    refine ⟨?_, fun l fr h r he => by simp only [codeAtL] at he; cases he⟩
    intro fr h r he
    simp only [codeL] at he
    obtain ⟨k, hk⟩ := lim_some he
    cases hr : codeL (callX C) b fr h with
    | none => rw [hr] at hk; unfold scopeN at hk; cases hk
    | some y =>
      rw [hr] at hk
      obtain ⟨n0, q0⟩ := ih.1 _ _ _ hr
      have key : ∀ (k : Nat) (y : Ex × Fr × LH), scopeN (codeAtL (callX C) b) (hasL b) k (some y) = some r → ∃ n, ∀ m, n ≤ m → scopeN (codeAt (callE C m) m b) (hasL b) k (some y) = some r := by
        intro k
        induction k with
        | zero =>
          intro y hy
          refine ⟨0, fun m _ => ?_⟩
          unfold scopeN at hy ⊢
          exact hy
        | succ k ihk =>
          intro y hy
          unfold scopeN at hy
          split at hy
          · rename_i l fr1 h1 e
            obtain rfl := Option.some.inj e
            split at hy
            · rename_i hl
              cases ht : codeAtL (callX C) b l fr1 h1 with
              | none => rw [ht] at hy; unfold scopeN at hy; cases hy
              | some z =>
                rw [ht] at hy
                obtain ⟨n1, q1⟩ := ih.2 _ _ _ _ ht
                obtain ⟨n2, q2⟩ := ihk z hy
                refine ⟨max n1 n2, fun m hm => ?_⟩
                unfold scopeN
                simp only [hl, if_true, q1 m (by omega)]
                exact q2 m (by omega)
            · rename_i hl
              refine ⟨0, fun m _ => ?_⟩
              unfold scopeN
              simp only [hl, Bool.false_eq_true, if_false]; exact hy
          · rename_i hne
            refine ⟨0, fun m _ => ?_⟩
            unfold scopeN
            split
            · rename_i l fr1 h1 e; exact absurd e (hne l fr1 h1)
            · exact hy
      obtain ⟨n1, q1⟩ := key k y hk
      refine ⟨max k (max n0 n1), fun m hm => ?_⟩
      simp only [codeE, q0 m (by omega)]
      exact scopeN_mono (fun _ _ _ _ h => h) _ k m (by omega) y r (q1 m (by omega))
  | ext k m f => refine ⟨?_, fun l fr h r he => by simp only [codeAtL] at he; cases he⟩; intro fr h r he; simp only [codeL] at he; exact ⟨0, fun _ _ => by simp only [codeE]; exact he⟩

theorem codeL_appr (e : EC) (fr : Fr) (h : LH) (r : Ex × Fr × LH) (he : codeL (callX C) e fr h = some r) : ∃ n, ∀ m, n ≤ m → codeE (callE C m) m e fr h = some r := (codeL_appr' e).1 fr h r he

/-- What a function's code comes to is what its call comes to. -/
noncomputable def bodyX (C : Nat → Option EF) (e : EF) (args : List FV) (h : LH) : Option (FV × LH) :=
  match codeL (callX C) e.body (initE 0 args) h with
  | some (.normal, fr, h') => packL (ressE fr h' e.res) h'
  | some (.ret, fr, h') => packL (ressE fr h' e.res) h'
  | _ => none

theorem callX_intro {f : Nat} {e : EF} (hf : C f = some e) {args : List FV} (hl : args.length ≤ e.slots) {h : LH} {r : FV × LH} (he : bodyX C e args h = some r) : callX C f args h = some r := by
  unfold bodyX at he
  split at he
  · rename_i fr h' h1
    obtain ⟨n, hn⟩ := codeL_appr _ _ _ _ h1
    refine callX_of (n := n + 1) ?_
    simp only [callE, hf, if_pos hl, hn n (Nat.le_refl _)]; exact he
  · rename_i fr h' h1
    obtain ⟨n, hn⟩ := codeL_appr _ _ _ _ h1
    refine callX_of (n := n + 1) ?_
    simp only [callE, hf, if_pos hl, hn n (Nat.le_refl _)]; exact he
  · cases he

theorem loopX_step {body : Fr → LH → Out} {keep : List Nat} {fr fr' : Fr} {h h' : LH} (hk : keepF keep fr = fr) (hb : body fr h = some (.normal, fr', h')) {r : Ex × Fr × LH} (hr : loopX body keep (keepF keep fr') h' = some r) : loopX body keep fr h = some r := by
  obtain ⟨n, hn⟩ := lim_some hr
  rw [loopN_keep] at hn
  refine lim_of (fun n r he => loopN_mono (fun _ _ _ h => h) (Nat.le_succ n) he) (n := n + 1) ?_
  simp only [loopN, hk, hb]; exact hn

theorem loopX_done {body : Fr → LH → Out} {keep : List Nat} {fr : Fr} {h : LH} {r : Ex × Fr × LH} (hk : keepF keep fr = fr) (hb : body fr h = some r) (hne : r.1 ≠ .normal) : loopX body keep fr h = some r := by
  refine lim_of (fun n r he => loopN_mono (fun _ _ _ h => h) (Nat.le_succ n) he) (n := 1) ?_
  obtain ⟨e, fr', h'⟩ := r
  cases e with
  | normal => exact absurd rfl hne
  | exit id => simp only [loopN, hk, hb]
  | goto l => simp only [loopN, hk, hb]
  | ret => simp only [loopN, hk, hb]

theorem callX_ok {P : Program} {G : Base → Prop} (hG : Stays P G) {w0 : Base} (hg : G w0) (hm : P.follows .mixedOrders = true) (hC : ∀ f e, C f = some e → (∃ hs, compF P f hs = some e) ∨ XOK P G f e) : CallOK P w0 (callX C) :=
  fun f args h v h' ρ w he R hw => by
    obtain ⟨n, hn⟩ := lim_some he
    exact call_ok hG hm hC n w0 hg f args h v h' ρ w hn R hw

/-- Where a law's run begins. -/
def W0 (w : World) : Base := ⟨w, w.heap.size, fun _ => False⟩
theorem Rel.start {P : Program} (w : World) (ρ : Nat → Ph) : Rel P (W0 w) ρ [] w :=
  ⟨Below.refl _ _, Nat.le_refl _, fun k hk => hk.elim, fun i o h => by simp at h, fun i o h => by simp at h, fun i j o o' h => by simp at h⟩

theorem lenE_sl {i p o n : Nat} : lenE (.sl i p o n) = some n := rfl
theorem lenE_nils : lenE .nils = some 0 := rfl
theorem lenE_sl0 {i p o : Nat} : lenE (.sl0 i p o) = some 0 := rfl

/-- One statement, and those behind it. -/
theorem seq_step {call : CallE} {x y : EC} {fr fr' : Fr} {h h' : LH} {r : Out} (hx : codeL call x fr h = some (.normal, fr', h')) (hy : codeL call y fr' h' = r) : codeL call (.seq x y) fr h = r := by
  simp only [codeL, hx]; exact hy

theorem seq_end {call : CallE} {x y : EC} {fr fr' : Fr} {h h' : LH} {e : Ex} (hx : codeL call x fr h = some (e, fr', h')) (hne : e ≠ .normal) : codeL call (.seq x y) fr h = some (e, fr', h') := by
  simp only [codeL, hx]
  cases e <;> first
    | rfl
    | exact absurd rfl hne

theorem body_of {e : EF} {args : List FV} {h h' : LH} {v : FV} {fr : Fr} (hb : codeL (callX C) e.body (initE 0 args) h = some (.ret, fr, h')) (hp : packL (ressE fr h' e.res) h' = some (v, h')) : bodyX C e args h = some (v, h') := by
  unfold bodyX
  rw [hb]; exact hp

/-- One round of a loop, whatever it comes to. -/
theorem loopX_round {body : Fr → LH → Out} {keep : List Nat} {fr : Fr} {h : LH} (hk : keepF keep fr = fr) {r : Ex × Fr × LH} (hr : (match body fr h with
    | some (.normal, fr', h') => loopX body keep (keepF keep fr') h'
    | x => x) = some r) : loopX body keep fr h = some r := by
  split at hr
  · rename_i fr' h' hb
    exact loopX_step hk hb hr
  · rename_i hne
    refine loopX_done hk hr ?_
    obtain ⟨e, fr', h'⟩ := r
    rintro rfl
    exact hne _ _ hr

/-- A law's call: it answers true and changes nothing that was there. -/
theorem stays_true {P : Program} : Stays P (fun _ => True) := fun _ _ _ _ _ _ _ => trivial
theorem calls_trueG {P : Program} {G : Base → Prop} (hG : Stays P G) (hm : P.follows .mixedOrders = true) (hC : ∀ f e, C f = some e → (∃ hs, compF P f hs = some e) ∨ XOK P G f e) {f : Nat} {args : List FV} {h h' : LH} (he : callX C f args h = some (.s (.bool true), h')) {ρ : Nat → Ph} {W : World} (hg : G (W0 W)) (R : Rel P (W0 W) ρ h W) (hw : ∀ u ∈ args, wfV ρ h.length u) :
    Calls P f (args.map (cv ρ)).toArray W fun e W' => e = .returned (.bool true) ∧ Below W.heap.size W W' := by
  refine Calls.mono (callX_ok (w0 := W0 W) hG hg hm hC f args h _ h' ρ W he R hw).2 fun e w' hq => ?_
  obtain ⟨ρ', rfl, q1, _⟩ := hq
  exact ⟨rfl, q1.below⟩
theorem calls_true {P : Program} (hm : P.follows .mixedOrders = true) (hC : ∀ f e, C f = some e → ∃ hs, compF P f hs = some e) {f : Nat} {args : List FV} {h h' : LH} (he : callX C f args h = some (.s (.bool true), h')) {ρ : Nat → Ph} {W : World} (R : Rel P (W0 W) ρ h W) (hw : ∀ u ∈ args, wfV ρ h.length u) :
    Calls P f (args.map (cv ρ)).toArray W fun e W' => e = .returned (.bool true) ∧ Below W.heap.size W W' := by
  exact calls_trueG (G := fun _ => True) stays_true hm (fun f e hf => .inl (hC f e hf)) he trivial R hw

end
end Go.Proofs.YtiljgimcipdadaaGreatDoor.Ev
