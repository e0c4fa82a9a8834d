/- A loop over a map whose rounds come to the same whatever their order. -/
import Derived.Test.YtiljgimcipdadaaGreatDoorEvMay
import Derived.Test.YtiljgimcipdadaaGreatDoorEvKit
set_option linter.unusedVariables false
set_option linter.unusedSimpArgs false
namespace Go.Proofs.YtiljgimcipdadaaGreatDoor.Ev
open Go Go.RowKit

variable {P : Program} {w0 : Base}

/-- How many are left. -/
def cntL (sz : Nat) (seen : List Nat) : Nat := ((List.range sz).filter fun j => !seen.contains j).length
theorem cntL_lt {sz j : Nat} {seen : List Nat} (hj : j < sz) (hn : j ∉ seen) : cntL sz (seen ++ [j]) < cntL sz seen := by
  unfold cntL
  refine Go.filter_lt (fun j => !seen.contains j) (fun k => !(seen ++ [j]).contains k) (fun x hx => ?_) j (by simpa using hn) (by simp) _ (List.mem_range.2 hj)
  simp only [List.contains_append, Bool.not_or, Bool.and_eq_true] at hx
  exact hx.1

/-- The loop's parts. -/
structure MapLoop (P : Program) (N : Nat) (call : CallE) (n : Nat) (es : List (SV × SV)) (good : SV × SV → Bool) (h : LH) (fr frB frR : Fr) (K : List Nat) (it tc d1 d2 : Nat) (ops1 ops2 : Array Oper) (rest : Code) where
  o1 : Oper
  o2 : Oper
  l1 : List Oper
  l2 : List Oper
  g1 : List EG
  g2 : List EG
  hs : List (List Nat)
  er : EC
  hs' : List (List Nat)
  frA : SV → SV → Fr
  frC : SV → SV → Fr
  e1 : ops1.toList = o1 :: l1
  e2 : ops2.toList = o2 :: l2
  p1 : o1.op = .next (.tmp it) false
  p2 : o2.op = .entry (.tmp it)
  q1 : o1.dst = some d1
  q2 : o2.dst = some d2
  r1 : o1.guard = none
  r2 : o2.guard = none
  k1 : d1 < N
  k2 : d2 < N
  c1 : compL P N ops1 l1 = some g1
  c2 : compL P N ops2 l2 = some g2
  c3 : compC P N rest hs = some (er, hs')
  h1t : ∀ k v h', opsE call g1 (fput fr (some d1) (some (.tup [.s (.bool true), .s k, .s v]))) h' = some (frA k v, h') ∧ fget (frA k v) tc = some (.s (.bool true))
  h1f : ∀ h', opsE call g1 (fput fr (some d1) (some (.tup [.s (.bool false)]))) h' = some (frB, h') ∧ fget frB tc = some (.s (.bool false))
  h2i : ∀ k v, fget (frA k v) it = fget fr it
  h2 : ∀ k v h', opsE call g2 (fput (frA k v) (some d2) (some (.tup [.s k, .s v]))) h' = some (frC k v, h')
  h3 : ∀ x ∈ es, ∀ h', Gr h h' → ∃ ex fr2 h2, codeE call n er (frC x.1 x.2) h' = some (ex, fr2, h2) ∧ Gr h' h2 ∧ ((good x = true ∧ ex = .normal ∧ keepF K fr2 = fr) ∨ (good x = false ∧ ex = .ret ∧ fr2 = frR))

theorem map_rounds {G : Base → Prop} (hG : Stays P G) (hg : G w0) (hm : P.follows .mixedOrders = true) {call : CallE} (hcall : ∀ w0, G w0 → CallOK P w0 call) (hgrow : Grows call) {n N : Nat} {es : List (SV × SV)} {good : SV × SV → Bool} {h : LH} {fr frB frR : Fr} {K : List Nat} {it tc d1 d2 : Nat} {ops1 ops2 : Array Oper} {rest : Code}
    (L : MapLoop P N call n es good h fr frB frR K it tc d1 d2 ops1 ops2 rest) {i1 i2 b0 b1 ii im r : Nat} (hii : fget fr it = some (.s (.ptr ii 0))) (hil : ii < h.length) (him : h[im]? = some (.map es)) (hrB : w0.B ≤ r) (hrF : ¬ w0.F r) {ρ0 : Nat → Ph} {Q : Exit → Act → World → Prop}
    (hQ1 : (∀ x ∈ es, good x = true) → ∀ ρ' h'' a' w', Rel P w0 ρ' h'' w' → Gr h h'' → Ext h.length ρ0 ρ' → FrR ρ' h''.length N frB a' → Q (.exit b0) a' w')
    (hQ2 : (∃ x ∈ es, good x = false) → ∀ ρ' h'' a' w', Rel P w0 ρ' h'' w' → Gr h h'' → Ext h.length ρ0 ρ' → FrR ρ' h''.length N frR a' → Q .ret a' w') :
    ∀ (k : Nat) (seen : Array Nat) (ρ : Nat → Ph) (h' : LH) (a : Act) (w : World), cntL es.length seen.toList < k → Rel P w0 ρ h' w → Gr h h' → Ext h.length ρ0 ρ → FrR ρ h'.length N fr a → (ρ ii).blk = r → (ρ ii).base = 0 →
      w.heap[r]? = some (.mapIter (some (ρ im).blk) es.length seen es.length) → (∀ j ∈ seen.toList, ∀ x, es[j]? = some x → good x = true) → (∀ i o, h'[i]? = some o → o.holds = true → (ρ i).blk ≠ r) →
      Code.rounds P (.seq (.region i1 ops1 false) (.seq (.cond (.tmp tc) .skip (.exit b0)) (.block b1 (.seq (.region i2 ops2 false) rest)))) Q k a w := by
  intro k
  induction k with
  | zero => intro seen ρ h' a w hk; omega
  | succ k ih =>
    intro seen ρ h' a w hk R gr hE hF hblk hbase hit hseen hfree
    rw [rounds_succ]
    have hil' : ii < h'.length := Nat.lt_of_lt_of_le hil gr.le
    have him' := gr.get him
    have himl : im < h'.length := obj_lt him'
    obtain ⟨m1, m2, ⟨ms, m3, m4, m5⟩, m6⟩ := R.obj im _ him'
    have hsz : ms.size = es.length := by
      have := congrArg List.length m4
      simpa using this
    have hit' : w.heap[r]? = some (.mapIter (some (ρ im).blk) ms.size seen ms.size) := by rw [hsz]; exact hit
    have hptr : a.eval (.tmp it) = .pointer (some ⟨r, 0, none⟩) := by
      obtain ⟨_, q, _⟩ := hF.get it _ hii
      show a.tmps.getD it undef = _
      rw [q]
      simp [cv, c0, hblk, hbase]
    have hw1 : ∀ y, Region.wanted L.o1 y = true := fun y => by unfold Region.wanted; rw [L.r1]
    have hw2 : ∀ y, Region.wanted L.o2 y = true := fun y => by unfold Region.wanted; rw [L.r2]
    rcases run_next_any (P := P) (ty := L.o1.type) hit' m3 m5 with ⟨hall, hrun⟩ | ⟨j, e, kk, hj, hns, hrun⟩
    · -- nothing is left
      refine _root_.Go.wp_seq (wp_region_list ?_)
      rw [L.e1]
      unfold wpList
      rw [hw1, if_pos rfl]
      refine .inl ?_
      unfold Oper.wp
      have hex : (execOp a.eval L.o1).run P w = .ok (.value (.tuple #[.bool false])) w := by
        unfold execOp
        rw [L.p1]
        simp only
        rw [hptr]
        exact run_v hrun
      rw [hex, Oper.upon_value, L.q1]
      obtain ⟨f1, f2⟩ := L.h1f h'
      refine ops_ok (hcall w0 hg) L.l1 L.g1 _ h' _ _ ρ _ w L.c1 f1 R (hF.put (v := .tup [.s (.bool false)]) (d := some d1) (fun t ht => by cases ht; exact L.k1) (fun v hv => by
        simp only [List.mem_cons, List.not_mem_nil, or_false] at hv; subst hv; trivial)) (fun ρ1 a1 w1 s1 s2 s3 s4 => ?_)
      refine _root_.Go.wp_seq (wp_cond (t := false) ?_ ?_)
      · obtain ⟨_, q, _⟩ := s2.get tc _ f2
        show a1.tmps.getD tc undef = _
        rw [q]; rfl
      · simp only [Bool.false_eq_true, if_false]
        refine wp_exit ?_
        refine hQ1 (fun x hx => ?_) ρ1 h' a1 w1 s1 gr (hE.trans gr.le s3) s2
        obtain ⟨j, hj⟩ := List.mem_iff_getElem?.1 hx
        exact hseen j (hall j (by rw [hsz]; exact (List.getElem?_eq_some_iff.1 hj).1)) x hj
    · -- an entry
      have hjs : j < es.length := by rw [← hsz]; exact (Array.getElem?_eq_some_iff.1 hj).1
      obtain ⟨x, hx⟩ : ∃ x, es[j]? = some x := ⟨_, List.getElem?_eq_getElem hjs⟩
      have hxm := List.mem_of_getElem? hx
      have hent : e.key = c0 ρ x.1 ∧ e.val = c0 ρ x.2 := by
        have h1 : (ms.toList.map fun e => (e.key, e.val))[j]? = some (e.key, e.val) := by rw [List.getElem?_map]; simp [hj]
        rw [m4, List.getElem?_map, hx] at h1
        simp only [Option.map_some, Option.some.injEq, Prod.mk.injEq] at h1
        exact ⟨h1.1.symm, h1.2.symm⟩
      have nl1 := isKey_nl (m6 x hxm).1
      have nl2 := (m6 x hxm).2
      have R1 := (R.drewN kk).setFree hrB hrF hfree (.mapIter (some (ρ im).blk) ms.size (seen.push j) ms.size)
      -- the base that keeps the iterator's block
      have hrl : r < w.heap.size := (Array.getElem?_eq_some_iff.1 hit).1
      have hFk : ∀ k, (w0.F k ∨ k = r) → k < ({ w.drewN kk with heap := w.heap.setIfInBounds r (.mapIter (some (ρ im).blk) ms.size (seen.push j) ms.size) } : World).heap.size := by
        intro k hk
        simp only [Array.size_setIfInBounds]
        rcases hk with hk | rfl
        · exact Nat.lt_of_lt_of_le (R.keep k hk).1 R.below.size
        · exact hrl
      have R2 := R1.rebase (fun k => w0.F k ∨ k = r) hFk (fun i o hi hh hk => hk.elim (R1.out i o hi hh) (hfree i o hi hh))
      have hg2 := hG w0 ρ h' _ (fun k => w0.F k ∨ k = r) R1 hg
      refine _root_.Go.wp_seq (wp_region_list ?_)
      rw [L.e1]
      unfold wpList
      rw [hw1, if_pos rfl]
      refine .inl ?_
      unfold Oper.wp
      have hex : (execOp a.eval L.o1).run P w = .ok (.value (.tuple #[.bool true, e.key, e.val])) { w.drewN kk with heap := w.heap.setIfInBounds r (.mapIter (some (ρ im).blk) ms.size (seen.push j) ms.size) } := by
        unfold execOp
        rw [L.p1]
        simp only
        rw [hptr]
        exact run_v hrun
      rw [hex, Oper.upon_value, L.q1]
      obtain ⟨f1, f2⟩ := L.h1t x.1 x.2 h'
      have etup : (Value.tuple #[.bool true, e.key, e.val]) = cv ρ (.tup [.s (.bool true), .s x.1, .s x.2]) := by simp [cv, c1, c0, hent.1, hent.2]
      rw [etup]
      refine ops_ok (hcall _ hg2) L.l1 L.g1 _ h' _ _ ρ _ _ L.c1 f1 R2 (hF.put (v := .tup [.s (.bool true), .s x.1, .s x.2]) (d := some d1) (fun t ht => by cases ht; exact L.k1) (fun v hv => by
        simp only [List.mem_cons, List.not_mem_nil, or_false] at hv
        rcases hv with rfl | rfl | rfl
        · trivial
        · exact nl_wf nl1
        · exact nl_wf nl2)) (fun ρ1 a1 w1 s1 s2 s3 s4 => ?_)
      have hb1 : (ρ1 ii).blk = r ∧ (ρ1 ii).base = 0 := by rw [s3 ii hil']; exact ⟨hblk, hbase⟩
      have hm1 : (ρ1 im).blk = (ρ im).blk := by rw [s3 im himl]
      have hit1 : w1.heap[r]? = some (.mapIter (some (ρ1 im).blk) es.length (seen.push j) es.length) := by
        rw [(s1.keep r (.inr rfl)).2, hm1, ← hsz]
        exact Array.getElem?_setIfInBounds_self_of_lt (show r < (w.drewN kk).heap.size from hrl)
      refine _root_.Go.wp_seq (wp_cond (t := true) ?_ ?_)
      · obtain ⟨_, q, _⟩ := s2.get tc _ f2
        show a1.tmps.getD tc undef = _
        rw [q]; rfl
      · simp only [if_true]
        refine wp_skip (wp_block (_root_.Go.wp_seq (wp_region_list ?_)))
        rw [L.e2]
        unfold wpList
        rw [hw2, if_pos rfl]
        refine .inl ?_
        unfold Oper.wp
        obtain ⟨t1, t2, ⟨ms1, t3, t4, t5⟩, t6⟩ := s1.obj im _ him'
        have hsz1 : ms1.size = es.length := by
          have := congrArg List.length t4
          simpa using this
        obtain ⟨e', he'⟩ : ∃ e', ms1[j]? = some e' := ⟨_, Array.getElem?_eq_getElem (by rw [hsz1]; exact hjs)⟩
        have hent1 : e'.key = c0 ρ1 x.1 ∧ e'.val = c0 ρ1 x.2 := by
          have h1 : (ms1.toList.map fun e => (e.key, e.val))[j]? = some (e'.key, e'.val) := by rw [List.getElem?_map]; simp [he']
          rw [t4, List.getElem?_map, hx] at h1
          simp only [Option.map_some, Option.some.injEq, Prod.mk.injEq] at h1
          exact ⟨h1.1.symm, h1.2.symm⟩
        have hptr1 : a1.eval (.tmp it) = .pointer (some ⟨r, 0, none⟩) := by
          obtain ⟨_, q, _⟩ := s2.get it _ ((L.h2i x.1 x.2).trans hii)
          show a1.tmps.getD it undef = _
          rw [q]
          simp [cv, c0, hb1.1, hb1.2]
        have hex2 : (execOp a1.eval L.o2).run P w1 = .ok (.value (.tuple #[e'.key, e'.val])) w1 := by
          unfold execOp
          rw [L.p2]
          simp only
          rw [hptr1]
          exact run_v (run_entry_any (by rw [hsz1]; exact hit1) t3 t5 he')
        rw [hex2, Oper.upon_value, L.q2]
        have etup2 : (Value.tuple #[e'.key, e'.val]) = cv ρ1 (.tup [.s x.1, .s x.2]) := by simp [cv, c1, hent1.1, hent1.2]
        rw [etup2]
        refine ops_ok (hcall _ hg2) L.l2 L.g2 _ h' _ _ ρ1 _ w1 L.c2 (L.h2 x.1 x.2 h') s1 (s2.put (v := .tup [.s x.1, .s x.2]) (d := some d2) (fun t ht => by cases ht; exact L.k2) (fun v hv => by
          simp only [List.mem_cons, List.not_mem_nil, or_false] at hv
          rcases hv with rfl | rfl
          · exact nl_wf nl1
          · exact nl_wf nl2)) (fun ρ2 a2 w2 u1 u2 u3 u4 => ?_)
        obtain ⟨ex, fr2, h2, v1, v2, v3⟩ := L.h3 x hxm h' gr
        refine code_ok hG hg2 hm hcall hgrow n rest L.hs L.er L.hs' L.c3 _ h' ex fr2 h2 v1 ρ2 a2 w2 u1 u2 _ (fun ρ3 a3 w3 y1 y2 y3 y4 => ?_)
        have hE3 : Ext h'.length ρ ρ3 := (s3.trans (Nat.le_refl _) u3).trans (Nat.le_refl _) y3
        have R3 : Rel P w0 ρ3 h2 w3 := R1.unbase (fun k hk => .inl hk) y1
        have gr3 := gr.trans v2
        have hE0 := hE.trans gr.le hE3
        rcases v3 with ⟨g, rfl, hkeep⟩ | ⟨g, rfl, rfl⟩
        · have hb3 : (ρ3 ii).blk = r ∧ (ρ3 ii).base = 0 := by rw [hE3 ii hil']; exact ⟨hblk, hbase⟩
          have hm3 : (ρ3 im).blk = (ρ im).blk := by rw [hE3 im himl]
          refine ih (seen.push j) ρ3 h2 a3 w3 ?_ R3 gr3 hE0 (by rw [← hkeep]; exact y2.keep K) hb3.1 hb3.2 ?_ ?_ ?_
          · have := cntL_lt (seen := seen.toList) hjs hns
            rw [Array.toList_push]; omega
          · rw [(y1.keep r (.inr rfl)).2, hm3, ← hsz]
            exact Array.getElem?_setIfInBounds_self_of_lt (show r < (w.drewN kk).heap.size from hrl)
          · intro q hq y hy
            rw [Array.toList_push] at hq
            rcases List.mem_append.1 hq with hq | hq
            · exact hseen q hq y hy
            · obtain rfl := List.mem_singleton.1 hq
              rw [hx] at hy
              obtain rfl := Option.some.inj hy
              exact g
          · intro i o hi hh e
            exact y1.out i o hi hh (.inr e)
        · exact hQ2 ⟨x, hxm, g⟩ ρ3 h2 a3 w3 R3 gr3 hE0 y2

/-- The first operations of a region. -/
theorem ops_ok2 {call : CallE} (hcall : CallOK P w0 call) {N : Nat} {Q : Exit → Act → World → Prop} {ops : Array Oper} (l2 : List Oper) : ∀ (l : List Oper) (gs : List EG) (fr : Fr) (h : LH) (fr' : Fr) (h' : LH) (ρ : Nat → Ph) (a : Act) (w : World), compL P N ops l = some gs → opsE call gs fr h = some (fr', h') → Rel P w0 ρ h w → FrR ρ h.length N fr a →
    (∀ ρ' a' w', Rel P w0 ρ' h' w' → FrR ρ' h'.length N fr' a' → Ext h.length ρ ρ' → h.length ≤ h'.length → wpList P ops Q l2 a' w') → wpList P ops Q (l ++ l2) a w
  | [], gs, fr, h, fr', h', ρ, a, w, hc, he, R, hF, hQ => by
    simp only [compL, Option.some.injEq] at hc
    subst hc
    simp only [opsE, Option.some.injEq, Prod.mk.injEq] at he
    obtain ⟨rfl, rfl⟩ := he
    exact hQ ρ a w R hF (Ext.refl _ _) (Nat.le_refl _)
  | o :: l, gs, fr, h, fr', h', ρ, a, w, hc, he, R, hF, hQ => by
    simp only [compL] at hc
    split at hc
    · rename_i g hg
      obtain ⟨gs', hgs, rfl⟩ := Option.map_eq_some_iff.1 hc
      obtain ⟨d1, d2, d3, d4⟩ := compG_ok hg
      simp only [opsE] at he
      rw [List.cons_append]
      unfold wpList
      split at he
      · rename_i hw
        rw [want_ok hF hg hw, if_pos rfl]
        split at he
        · rename_i v h1 hs
          refine .inl (step_ok hcall R hF d3.1 d3.2 hs fun ρ1 w1 q1 q2 q3 q4 => ?_)
          rw [d2] at he
          exact ops_ok2 hcall l2 l gs' _ h1 fr' h' ρ1 _ w1 hgs he q1 ((hF.ext q2 q3).put d1 q4) (fun ρ2 a2 w2 r1 r2 r3 r4 => hQ ρ2 a2 w2 r1 r2 (q2.trans q3 r3) (by omega))
        · cases he
      · rename_i hw
        rw [want_ok hF hg hw, if_neg (by decide)]
        rw [d2] at he
        have hu : (undef : Value) = cv ρ (.tup []) := rfl
        rw [hu]
        exact ops_ok2 hcall l2 l gs' _ h fr' h' ρ _ w hgs he R (hF.put d1 (v := .tup []) (fun v hv => by cases hv)) hQ
      · cases he
    · cases hc

def noLoop : EC → Bool
  | .seq a b => noLoop a && noLoop b
  | .cond _ a b => noLoop a && noLoop b
  | .block _ b => noLoop b
  | .loop _ _ => false
  | .scope _ => false
  | _ => true
theorem codeE_noLoop {call : CallE} {n : Nat} : ∀ (c : EC), noLoop c = true → ∀ (fr : Fr) (h : LH), codeE call n c fr h = codeL call c fr h := by
  intro c
  induction c with
  | skip => intro _ fr h; simp only [codeE, codeL]
  | label l => intro _ fr h; simp only [codeE, codeL]
  | ops l k => intro _ fr h; simp only [codeE, codeL]
  | draw l p k => intro _ fr h; simp only [codeE, codeL]
  | exit i k => intro _ fr h; simp only [codeE, codeL]
  | ret k => intro _ fr h; simp only [codeE, codeL]
  | goto l k => intro _ fr h; simp only [codeE, codeL]
  | ext k m g => intro _ fr h; simp only [codeE, codeL]
  | seq a b iha ihb =>
    intro hn fr h
    simp only [noLoop, Bool.and_eq_true] at hn
    simp only [codeE, codeL, iha hn.1]
    cases codeL call a fr h with
    | none => rfl
    | some r =>
      obtain ⟨x, f1, h1⟩ := r
      cases x <;> first
        | exact ihb hn.2 _ _
        | rfl
  | cond c a b iha ihb =>
    intro hn fr h
    simp only [noLoop, Bool.and_eq_true] at hn
    simp only [codeE, codeL, iha hn.1, ihb hn.2]
    cases odS fr c with
    | none => rfl
    | some v => cases v <;> rfl
  | block i b ih =>
    intro hn fr h
    simp only [noLoop] at hn
    simp only [codeE, codeL, ih hn]
    cases codeL call b fr h with
    | none => rfl
    | some r =>
      obtain ⟨x, f1, h1⟩ := r
      cases x <;> rfl
  | loop k b ih => intro hn; cases hn
  | scope b ih => intro hn; cases hn

theorem callX_grow (C : Nat → Option EF) : Grows (callX C) := fun f args h v h' he => by
  obtain ⟨n, hn⟩ := callX_some he
  exact callE_grow C n _ _ _ _ _ (hn n (Nat.le_refl _))

/-- A loop over a map begins: the iterator's block is no object's; its pointer is a name of its own. -/
theorem Rel.range {ρ : Nat → Ph} {h : LH} {w : World} (R : Rel P w0 ρ h w) {im : Nat} {es : List (SV × SV)} (him : h[im]? = some (.map es)) {t k e : TypeId} (ht : P.underlying t = some (.map k e)) :
    ∃ w', (Instr.range t (c0 ρ (.mp im))).run P w = .ok (.pointer (some ⟨w.heap.size, 0, none⟩)) w' ∧ Rel P w0 (upd ρ h.length ⟨w.heap.size, 0, 1, 1, undef⟩) (h ++ [.dead]) w' ∧ w'.heap[w.heap.size]? = some (.mapIter (some (ρ im).blk) es.length #[] es.length) := by
  obtain ⟨m1, m2, ⟨ms, m3, m4, m5⟩, m6⟩ := R.obj im _ him
  have hsz : ms.size = es.length := by
    have := congrArg List.length m4
    simpa using this
  refine ⟨_, run_range_map w t k e _ ms ms.size ht m3, (R.allocFree _).pseudo _ .dead rfl trivial, ?_⟩
  rw [heap_alloc_new, hsz]

/-- A call of a function that is known by what it comes to. -/
theorem ext_call1 {C : Nat → Option EF} {f k : Nat} {g : List FV → LH → Option (List FV × LH)} (hf : C f = some ⟨k, .ext k 1 g, (List.range 1).map fun i => .tmp (k + i)⟩) {args : List FV} {h h' : LH} {v : FV} (hl : args.length = k) (hg : g args h = some ([v], h')) (hle : h.length ≤ h'.length) (hfl : flat1 [v] = true) : callX C f args h = some (v, h') := by
  refine callX_intro hf (by simp [hl]) ?_
  unfold bodyX
  have h1 : argsF (initE 0 args) 0 k = some args := by rw [← hl]; exact args_init args 0
  simp only [codeL, extE, h1, Option.bind_some, hg, List.length_singleton, if_true, hle]
  simp only [List.range_one, List.map_cons, List.map_nil, Nat.add_zero, ressE, resE, initE, fget, if_true, Option.map_some, packL, hfl, packE]

end Go.Proofs.YtiljgimcipdadaaGreatDoor.Ev
