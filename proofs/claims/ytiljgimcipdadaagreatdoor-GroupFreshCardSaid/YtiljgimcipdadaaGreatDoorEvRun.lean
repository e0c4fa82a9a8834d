/- The small machine, run: what it answers where all is known, to be reckoned by the kernel. -/
import Derived.Test.YtiljgimcipdadaaGreatDoorEvS
set_option linter.unusedVariables false
set_option linter.unusedSimpArgs false
namespace Go.Proofs.YtiljgimcipdadaaGreatDoor.Ev
open Go

def bytesB (a b : ByteArray) : Bool := a.data.toList == b.data.toList

def svB : SV → SV → Bool
  | .bool a, .bool b => a == b
  | .int k a, .int k' b => decide (k = k') && decide (a = b)
  | .str a, .str b => bytesB a b
  | .nilp, .nilp => true
  | .ptr a b, .ptr c d => Nat.beq a c && Nat.beq b d
  | .nils, .nils => true
  | .sl a b c d, .sl a' b' c' d' => Nat.beq a a' && Nat.beq b b' && Nat.beq c c' && Nat.beq d d'
  | .sl0 a b c, .sl0 a' b' c' => Nat.beq a a' && Nat.beq b b' && Nat.beq c c'
  | .nilm, .nilm => true
  | .mp a, .mp b => Nat.beq a b
  | .nilf, .nilf => true
  | .fn a, .fn b => Nat.beq a b
  | .cl a, .cl b => Nat.beq a b
  | .nili, .nili => true
  | .iv a, .iv b => Nat.beq a b
  | _, _ => false

def svsB : List SV → List SV → Bool
  | [], [] => true
  | a :: r, b :: s => svB a b && svsB r s
  | _, _ => false

mutual
def fvB : FV → FV → Bool
  | .s a, .s b => svB a b
  | .agg a, .agg b => svsB a b
  | .tup a, .tup b => fvsB a b
  | _, _ => false
def fvsB : List FV → List FV → Bool
  | [], [] => true
  | a :: r, b :: s => fvB a b && fvsB r s
  | _, _ => false
end

/-- Objects of cells alone are compared. -/
def loB : LO → LO → Bool
  | .own t a, .own t' b => Nat.beq t t' && svsB a b
  | .ro t a, .ro t' b => Nat.beq t t' && svsB a b
  | .dead, .dead => true
  | _, _ => false

def lhB : LH → LH → Bool
  | [], [] => true
  | a :: r, b :: s => loB a b && lhB r s
  | _, _ => false

theorem bytesB_eq {a b : ByteArray} (h : bytesB a b = true) : a = b := by
  have := LawfulBEq.eq_of_beq h
  cases a; cases b
  simp only at this
  rw [show _ = _ from Array.ext' this]

theorem svB_eq {a b : SV} (h : svB a b = true) : a = b := by
  unfold svB at h
  split at h <;> try simp only [Bool.and_eq_true, beq_iff_eq, Nat.beq_eq, decide_eq_true_eq] at h
  all_goals first | rfl | (rw [h]) | (obtain ⟨rfl, rfl⟩ := h; rfl) | (obtain ⟨⟨rfl, rfl⟩, rfl⟩ := h; rfl) | (obtain ⟨⟨⟨rfl, rfl⟩, rfl⟩, rfl⟩ := h; rfl) | (rw [bytesB_eq h]) | cases h

theorem svsB_eq : ∀ {a b : List SV}, svsB a b = true → a = b
  | [], [], _ => rfl
  | a :: r, b :: s, h => by
    simp only [svsB, Bool.and_eq_true] at h
    rw [svB_eq h.1, svsB_eq h.2]
  | [], _ :: _, h => by simp [svsB] at h
  | _ :: _, [], h => by simp [svsB] at h

mutual
theorem fvB_eq : ∀ {a b : FV}, fvB a b = true → a = b
  | .s a, .s b, h => by simp only [fvB] at h; rw [svB_eq h]
  | .agg a, .agg b, h => by simp only [fvB] at h; rw [svsB_eq h]
  | .tup a, .tup b, h => by simp only [fvB] at h; rw [fvsB_eq h]
  | .s _, .agg _, h => by simp [fvB] at h
  | .s _, .tup _, h => by simp [fvB] at h
  | .agg _, .s _, h => by simp [fvB] at h
  | .agg _, .tup _, h => by simp [fvB] at h
  | .tup _, .s _, h => by simp [fvB] at h
  | .tup _, .agg _, h => by simp [fvB] at h
theorem fvsB_eq : ∀ {a b : List FV}, fvsB a b = true → a = b
  | [], [], _ => rfl
  | a :: r, b :: s, h => by
    simp only [fvsB, Bool.and_eq_true] at h
    rw [fvB_eq h.1, fvsB_eq h.2]
  | [], _ :: _, h => by simp [fvsB] at h
  | _ :: _, [], h => by simp [fvsB] at h
end

theorem loB_eq {a b : LO} (h : loB a b = true) : a = b := by
  unfold loB at h
  split at h <;> try simp only [Bool.and_eq_true, Nat.beq_eq] at h
  · rw [h.1, svsB_eq h.2]
  · rw [h.1, svsB_eq h.2]
  · rfl
  · cases h

theorem lhB_eq : ∀ {a b : LH}, lhB a b = true → a = b
  | [], [], _ => rfl
  | a :: r, b :: s, h => by
    simp only [lhB, Bool.and_eq_true] at h
    rw [loB_eq h.1, lhB_eq h.2]
  | [], _ :: _, h => by simp [lhB] at h
  | _ :: _, [], h => by simp [lhB] at h

def svLt (n : Nat) : SV → Bool
  | .ptr i _ | .sl i _ _ _ | .sl0 i _ _ | .mp i | .cl i | .iv i => Nat.blt i n
  | _ => true

def svsLt (n : Nat) : List SV → Bool
  | [] => true
  | v :: r => svLt n v && svsLt n r

mutual
def fvLt (n : Nat) : FV → Bool
  | .s v => svLt n v
  | .agg l => svsLt n l
  | .tup l => fvsLt n l
def fvsLt (n : Nat) : List FV → Bool
  | [] => true
  | v :: r => fvLt n v && fvsLt n r
end

def frLtB (n : Nat) : Fr → Bool
  | [] => true
  | (_, some v) :: r => fvLt n v && frLtB n r
  | (_, none) :: r => frLtB n r

theorem svLt_ok {n : Nat} {v : SV} (h : svLt n v = true) : nmS (· < n) v := by
  cases v <;> simp only [svLt, nmS, Nat.blt_eq] at h ⊢ <;> exact h

theorem svsLt_ok {n : Nat} : ∀ {l : List SV}, svsLt n l = true → nmL (· < n) l
  | [], _ => trivial
  | v :: r, h => by
    simp only [svsLt, Bool.and_eq_true] at h
    exact ⟨svLt_ok h.1, svsLt_ok h.2⟩

mutual
theorem fvLt_ok {n : Nat} : ∀ {v : FV}, fvLt n v = true → nmV (· < n) v
  | .s v, h => svLt_ok (by simpa only [fvLt] using h)
  | .agg l, h => svsLt_ok (by simpa only [fvLt] using h)
  | .tup l, h => fvsLt_ok (by simpa only [fvLt] using h)
theorem fvsLt_ok {n : Nat} : ∀ {l : List FV}, fvsLt n l = true → nmVL (· < n) l
  | [], _ => trivial
  | v :: r, h => by
    simp only [fvsLt, Bool.and_eq_true] at h
    exact ⟨fvLt_ok h.1, fvsLt_ok h.2⟩
end

theorem frLtB_ok {n : Nat} : ∀ {fr : Fr}, frLtB n fr = true → frLt n fr
  | [], _ => trivial
  | (_, some v) :: r, h => by
    simp only [frLtB, Bool.and_eq_true] at h
    exact ⟨fvLt_ok h.1, frLtB_ok h.2⟩
  | (_, none) :: r, h => frLtB_ok (fr := r) (by simpa only [frLtB] using h)

def rdAftB (n : Nat) (fr : Fr) (op : EO) : Bool := match rdO fr op with
  | some p => Nat.ble n p
  | none => false

def againB (call : CallE) (a : TE) (h : LH) : Bool :=
  match stepE call a.fr h a.op with
  | some (v, _) => fvB v a.v
  | none => false

def againC (call : CallE) (a : TE) (h : LH) : Bool :=
  match stepE call a.fr h a.op with
  | some (v, h') => fvB v a.v && lhB h' h
  | none => false

def okPairB (call : CallE) (tr : List (Option TE)) (p : Nat × Nat) : Bool :=
  match tr[p.1]?, tr[p.2]? with
  | some (some a), some (some b) =>
    if changesE b.op then
      if changesE a.op then lhB b.h' b.h || (lhB a.h' a.h && frLtB b.h.length a.fr && againC call a b.h && againC call a b.h')
      else rdAftB b.h'.length a.fr a.op || (againB call a b.h && againB call a b.h')
    else true
  | some _, some _ => true
  | _, _ => false

def okPairsB (call : CallE) (tr : List (Option TE)) : List (Nat × Nat) → Bool
  | [] => true
  | p :: r => okPairB call tr p && okPairsB call tr r

def drawB (call : CallE) (l : List EG) (pairs : List (Nat × Nat)) (fr : Fr) (h : LH) : Option (Fr × LH) :=
  match pairs with
  | [] => opsE call l fr h
  | pairs =>
    match traceE call l fr h with
    | some (tr, fr', h') => if okPairsB call tr pairs then some (fr', h') else none
    | none => none

mutual
def codeB (call : CallE) (n : Nat) : EC → Fr → LH → Out
  | .skip, fr, h => some (.normal, fr, h)
  | .label _, fr, h => some (.normal, fr, h)
  | .ops l keep, fr, h => (opsE call l fr h).map fun x => (.normal, keepF keep x.1, x.2)
  | .draw l ps keep, fr, h => (drawB call l ps fr h).map fun x => (.normal, keepF keep x.1, x.2)
  | .seq a b, fr, h =>
    match codeB call n a fr h with
    | some (.normal, fr', h') => codeB call n b fr' h'
    | r => r
  | .cond c a b, fr, h =>
    match odS fr c with
    | some (.bool t) => if t then codeB call n a fr h else codeB call n b fr h
    | _ => none
  | .block id b, fr, h =>
    match codeB call n b fr h with
    | some (.exit id', fr', h') => if id' = id then some (.normal, fr', h') else some (.exit id', fr', h')
    | r => r
  | .loop keep b, fr, h => loopN (codeB call n b) keep n fr h
  | .exit id keep, fr, h => some (.exit id, keepF keep fr, h)
  | .ret keep, fr, h => some (.ret, keepF keep fr, h)
  | .goto l keep, fr, h => some (.goto l, keepF keep fr, h)
  | .scope b, fr, h => scopeN (codeAtB call n b) (hasL b) n (codeB call n b fr h)
  | .ext k m g, fr, h => extE k m g fr h
def codeAtB (call : CallE) (n : Nat) : EC → Nat → Fr → LH → Out
  | .seq a b, l, fr, h =>
    if hasL a l then match codeAtB call n a l fr h with
    | some (.normal, fr', h') => codeB call n b fr' h'
    | r => r
    else codeAtB call n b l fr h
  | .label l', l, fr, h => if l' == l then some (.normal, fr, h) else none
  | _, _, _, _ => none
end

def callB (C : Nat → Option EF) : Nat → CallE
  | 0, _, _, _ => none
  | n + 1, f, args, h =>
    match C f with
    | none => none
    | some e =>
      if args.length ≤ e.slots then
        match codeB (callB C n) n e.body (initE 0 args) h with
        | some (.normal, fr, h') => packL (ressE fr h' e.res) h'
        | some (.ret, fr, h') => packL (ressE fr h' e.res) h'
        | _ => none
      else none

/-! ### What it tells is so -/
theorem rdAftB_ok {n : Nat} {fr : Fr} {op : EO} (h : rdAftB n fr op = true) : rdAft n fr op := by
  unfold rdAftB at h
  unfold rdAft
  split at h
  · rename_i p hp
    rw [hp]; exact Nat.le_of_ble_eq_true h
  · cases h

theorem againB_ok {call : CallE} {a : TE} {h : LH} (hc : changesE a.op = false) (he : againB call a h = true) : stepE call a.fr h a.op = some (a.v, h) := by
  unfold againB at he
  split at he
  · rename_i v h' hs
    rw [hs, fvB_eq he, step_nochange hc hs]
  · cases he

theorem againC_ok {call : CallE} {a : TE} {h : LH} (he : againC call a h = true) : stepE call a.fr h a.op = some (a.v, h) := by
  unfold againC at he
  split at he
  · rename_i v h' hs
    rw [Bool.and_eq_true] at he
    rw [hs, fvB_eq he.1, lhB_eq he.2]
  · cases he

/-- The operations of a trace were done. -/
theorem trace_step {call : CallE} : ∀ {l : List EG} {fr : Fr} {h : LH} {tr : List (Option TE)} {fr' : Fr} {h' : LH}, traceE call l fr h = some (tr, fr', h') → ∀ b, some b ∈ tr → stepE call b.fr b.h b.op = some (b.v, b.h')
  | [], fr, h, tr, fr', h', ht, b, hb => by
    simp only [traceE, Option.some.injEq, Prod.mk.injEq] at ht
    obtain ⟨rfl, -, -⟩ := ht
    cases hb
  | g :: l, fr, h, tr, fr', h', ht, b, hb => by
    simp only [traceE] at ht
    split at ht
    · split at ht
      · rename_i v h1 hs
        obtain ⟨x, hx, he⟩ := Option.map_eq_some_iff.1 ht
        obtain ⟨x1, x2, x3⟩ := x
        simp only [Prod.mk.injEq] at he
        obtain ⟨rfl, rfl, rfl⟩ := he
        rcases List.mem_cons.1 hb with hb | hb
        · obtain rfl := Option.some.inj hb; exact hs
        · exact trace_step hx b hb
      · cases ht
    · obtain ⟨x, hx, he⟩ := Option.map_eq_some_iff.1 ht
      obtain ⟨x1, x2, x3⟩ := x
      simp only [Prod.mk.injEq] at he
      obtain ⟨rfl, rfl, rfl⟩ := he
      rcases List.mem_cons.1 hb with hb | hb
      · cases hb
      · exact trace_step hx b hb
    · cases ht

theorem okPairB_ok {call : CallE} {tr : List (Option TE)} (htr : ∀ b, some b ∈ tr → stepE call b.fr b.h b.op = some (b.v, b.h')) {p : Nat × Nat} (h : okPairB call tr p = true) : okPair call tr p := by
  unfold okPairB at h
  unfold okPair
  split at h
  · rename_i a b ha hb
    rw [ha, hb]
    simp only
    split at h
    · split at h
      · rename_i hca
        rw [Bool.or_eq_true] at h
        rcases h with h | h
        · exact .inl (lhB_eq h)
        · simp only [Bool.and_eq_true] at h
          exact .inr (.inl ⟨againC_ok h.1.2, againC_ok h.2, fun _ => ⟨lhB_eq h.1.1.1, frLtB_ok h.1.1.2⟩⟩)
      · rename_i hca
        have hca : changesE a.op = false := by simpa using hca
        rw [Bool.or_eq_true] at h
        rcases h with h | h
        · exact .inr (.inr ⟨hca, rdAftB_ok h⟩)
        · rw [Bool.and_eq_true] at h
          exact .inr (.inl ⟨againB_ok hca h.1, againB_ok hca h.2, fun hx => by rw [hca] at hx; cases hx⟩)
    · rename_i hcb
      exact .inl (step_nochange (by simpa using hcb) (htr b (List.mem_of_getElem? hb)))
  · rename_i a b hn ha hb
    rw [ha, hb]
    split
    · rename_i x y h1 h2
      exact (hn x y (Option.some.inj h1) (Option.some.inj h2)).elim
    · trivial
    · rename_i h1 h2
      exact h2 _ _ rfl rfl
  · cases h

theorem okPairsB_ok {call : CallE} {tr : List (Option TE)} (htr : ∀ b, some b ∈ tr → stepE call b.fr b.h b.op = some (b.v, b.h')) : ∀ {l : List (Nat × Nat)}, okPairsB call tr l = true → okPairs call tr l
  | [], _ => trivial
  | p :: l, h => by
    simp only [okPairsB, Bool.and_eq_true] at h
    exact ⟨okPairB_ok htr h.1, okPairsB_ok htr h.2⟩

theorem drawB_ok {call : CallE} {l : List EG} {ps : List (Nat × Nat)} {fr : Fr} {h : LH} {r : Fr × LH} (he : drawB call l ps fr h = some r) : drawE call l ps fr h = some r := by
  unfold drawB at he
  split at he
  · rw [drawE0]; exact he
  · split at he
    · rename_i tr fr' h' ht
      split at he
      · rename_i hp
        unfold drawE
        rw [ht]
        simp only
        rw [if_pos (okPairsB_ok (trace_step ht) hp)]; exact he
      · cases he
    · cases he

theorem codeB_ok' {c c' : CallE} (hc : CallLe c c') {n : Nat} : ∀ (e : EC), (∀ (fr : Fr) (h : LH) (r : Ex × Fr × LH), codeB c n e fr h = some r → codeE c' n e fr h = some r) ∧ ∀ (l : Nat) (fr : Fr) (h : LH) (r : Ex × Fr × LH), codeAtB c n e l fr h = some r → codeAt c' n e l fr h = some r := by
  intro e
  induction e with
  | skip => refine ⟨?_, fun l fr h r he => by simp only [codeAtB] at he; cases he⟩; intro fr h r he; simp only [codeB] at he; simp only [codeE]; exact he
  | label l' =>
    refine ⟨fun fr h r he => ?_, fun l fr h r he => ?_⟩
    · simp only [codeB] at he; simp only [codeE]; exact he
    · simp only [codeAtB] at he; simp only [codeAt]; exact he
  | ops l keep =>
    refine ⟨?_, fun l fr h r he => by simp only [codeAtB] at he; cases he⟩
    intro fr h r he
    simp only [codeB] at he
    simp only [codeE]
    obtain ⟨x, hx, rfl⟩ := Option.map_eq_some_iff.1 he
    rw [opsE_mono hc _ _ _ _ hx]; rfl
  | draw l ps keep =>
    refine ⟨?_, fun l fr h r he => by simp only [codeAtB] at he; cases he⟩
    intro fr h r he
    simp only [codeB] at he
    simp only [codeE]
    obtain ⟨x, hx, rfl⟩ := Option.map_eq_some_iff.1 he
    rw [drawE_mono hc (drawB_ok hx)]; rfl
  | seq a b iha ihb =>
    refine ⟨fun fr h r he => ?_, fun l fr h r he => ?_⟩
    · simp only [codeB] at he
      simp only [codeE]
      split at he
      · rename_i fr' h' h1
        rw [iha.1 _ _ _ h1]; exact ihb.1 _ _ _ he
      · rename_i hne
        rw [iha.1 _ _ _ he]
        split
        · rename_i hq; exact absurd (he.trans hq) (hne _ _)
        · rfl
    · simp only [codeAtB] at he
      simp only [codeAt]
      split at he
      · rename_i hl
        rw [if_pos hl]
        split at he
        · rename_i fr' h' h1
          rw [iha.2 _ _ _ _ h1]; exact ihb.1 _ _ _ he
        · rename_i hne
          rw [iha.2 _ _ _ _ he]
          split
          · rename_i hq; exact absurd (he.trans hq) (hne _ _)
          · rfl
      · rename_i hl
        rw [if_neg hl]; exact ihb.2 _ _ _ _ he
  | cond x a b iha ihb =>
    refine ⟨?_, fun l fr h r he => by simp only [codeAtB] at he; cases he⟩
    intro fr h r he
    simp only [codeB] at he
    simp only [codeE]
    split at he
    · rename_i t ht
      rw [ht]
      cases t with
      | true => exact iha.1 _ _ _ he
      | false => exact ihb.1 _ _ _ he
    · cases he
  | block id b ih =>
    refine ⟨?_, fun l fr h r he => by simp only [codeAtB] at he; cases he⟩
    intro fr h r he
    simp only [codeB] at he
    simp only [codeE]
    split at he
    · rename_i id' fr' h' h1
      rw [ih.1 _ _ _ h1]; exact he
    · rename_i hne
      rw [ih.1 _ _ _ he]
      split
      · rename_i hq; exact absurd (he.trans hq) (hne _ _ _)
      · rfl
  | loop keep b ih =>
    refine ⟨?_, fun l fr h r he => by simp only [codeAtB] at he; cases he⟩
    intro fr h r he
    simp only [codeB] at he
    simp only [codeE]
    exact loopN_mono ih.1 (Nat.le_refl n) he
  | exit id keep => refine ⟨?_, fun l fr h r he => by simp only [codeAtB] at he; cases he⟩; intro fr h r he; simp only [codeB] at he; simp only [codeE]; exact he
  | ret keep => refine ⟨?_, fun l fr h r he => by simp only [codeAtB] at he; cases he⟩; intro fr h r he; simp only [codeB] at he; simp only [codeE]; exact he
  | goto l keep => refine ⟨?_, fun l fr h r he => by simp only [codeAtB] at he; cases he⟩; intro fr h r he; simp only [codeB] at he; simp only [codeE]; exact he
  | scope b ih =>
    refine ⟨?_, fun l fr h r he => by simp only [codeAtB] at he; cases he⟩
    intro fr h r he
    simp only [codeB] at he
    simp only [codeE]
    cases hr : codeB c n b fr h with
    | none => rw [hr] at he; unfold scopeN at he; cases he
    | some y =>
      rw [hr] at he
      rw [ih.1 _ _ _ hr]
      exact scopeN_mono ih.2 _ n n (Nat.le_refl n) y r he
  | ext k m f => refine ⟨?_, fun l fr h r he => by simp only [codeAtB] at he; cases he⟩; intro fr h r he; simp only [codeB] at he; simp only [codeE]; exact he

theorem callB_ok (C : Nat → Option EF) : ∀ n, CallLe (callB C n) (callE C n)
  | 0 => fun f args h r he => by cases he
  | n + 1 => fun f args h r he => by
    rw [callB] at he
    rw [callE]
    split at he
    · cases he
    · rename_i e hf
      rw [hf]
      simp only
      split at he
      · rename_i hle
        rw [if_pos hle]
        split at he
        · rename_i fr h1 h2
          rw [(codeB_ok' (callB_ok C n) _).1 _ _ _ h2]; exact he
        · rename_i fr h1 h2
          rw [(codeB_ok' (callB_ok C n) _).1 _ _ _ h2]; exact he
        · cases he
      · cases he

/-- A run that is reckoned is a call's answer. -/
theorem run_call {C : Nat → Option EF} (n : Nat) {f : Nat} {args : List FV} {h : LH} {r : FV × LH} (he : callB C n f args h = some r) : callX C f args h = some r := callX_of (callB_ok C n _ _ _ _ he)
end Go.Proofs.YtiljgimcipdadaaGreatDoor.Ev
