/- Regions whose order is open. -/
import Derived.Test.YtiljgimcipdadaaGreatDoorEvName
set_option linter.unusedVariables false
set_option linter.unusedSimpArgs false
namespace Go.Proofs.YtiljgimcipdadaaGreatDoor.Ev
open Go Go.RowKit

variable {P : Program} {w0 : Base}

/-! ### Operations that do not look, or do not change -/
theorem nolook {fr : Fr} {h h' : LH} {op : EO} {v : FV} (hl : looksE op = false) (he : opE fr h op = some (v, h')) : h' = h ∧ ∀ h2, opE fr h2 op = some (v, h2) := by
  cases op <;> first
    | (cases hl; done)
    | (simp only [opE] at he ⊢
       constructor
       · (repeat' split at he) <;> simp_all [Option.map_eq_some_iff] <;> grind
       · intro h2
         (repeat' split at he) <;> simp_all [Option.map_eq_some_iff] <;> grind)

theorem nochange {fr : Fr} {h h' : LH} {op : EO} {v : FV} (hl : changesE op = false) (he : opE fr h op = some (v, h')) : h' = h := by
  cases op <;> first
    | (cases hl; done)
    | (simp only [opE] at he
       (repeat' split at he) <;> simp_all [Option.map_eq_some_iff] <;> grind)

theorem call_change {op : EO} (h : changesE op = false) : isCall op = false := by
  cases op <;> first
    | rfl
    | cases h

theorem look_call {op : EO} (h : looksE op = false) : isCall op = false := by
  cases op <;> first
    | rfl
    | cases h

theorem step_nolook {call : CallE} {fr : Fr} {h h' : LH} {op : EO} {v : FV} (hl : looksE op = false) (he : stepE call fr h op = some (v, h')) : h' = h ∧ ∀ h2, stepE call fr h2 op = some (v, h2) := by
  unfold stepE at he ⊢
  rw [look_call hl] at he ⊢
  exact nolook hl he

theorem step_nochange {call : CallE} {fr : Fr} {h h' : LH} {op : EO} {v : FV} (hl : changesE op = false) (he : stepE call fr h op = some (v, h')) : h' = h := by
  unfold stepE at he
  rw [call_change hl] at he
  exact nochange hl he

theorem change_look {op : EO} (h : changesE op = true) : looksE op = true := by
  cases op <;> first
    | rfl
    | cases h

/-! ### Operations that make one object out of their frame alone -/
theorem pa_call {op : EO} (h : paE op = true) : isCall op = false := by
  cases op <;> first
    | rfl
    | cases h
theorem pa_look {op : EO} (h : paE op = true) : changesE op = true := by
  cases op <;> first
    | rfl
    | cases h
theorem pa_spec {fr : Fr} {h h' : LH} {op : EO} {v : FV} (hp : paE op = true) (he : opE fr h op = some (v, h')) : ∃ (o : LO) (mk : Nat → FV), h' = h ++ [o] ∧ v = mk h.length ∧ (∀ h2 : LH, opE fr h2 op = some (mk h2.length, h2 ++ [o])) ∧
    (∀ (S : Nat → Prop) (q : Nat), S q → nmV S (mk q)) ∧ ∀ S : Nat → Prop, nlE op = true → FrN S fr → nmO S o := by
  cases op <;> first
    | (cases hp; done)
    | skip
  case new t n x =>
    simp only [opE] at he ⊢
    split at he
    · rename_i l hl
      split at he
      · rename_i hn
        cases he
        exact ⟨.own t l, fun q => .s (.ptr q 0), rfl, rfl, fun h2 => by simp [hn], fun S q hq => hq, fun S hc hF => odc_nm hF hc hl⟩
      · cases he
    · cases he
  case bsl t n z ps =>
    simp only [opE] at he ⊢
    obtain ⟨l, hl, e⟩ := Option.map_eq_some_iff.1 he
    cases e
    refine ⟨.own t l, fun q => .s (.sl q 0 0 n), rfl, rfl, fun h2 => by rw [hl]; rfl, fun S q hq => hq, fun S hc hF => ?_⟩
    simp only [nlE, Bool.and_eq_true] at hc
    exact fill_nm hF hc.2 (rep_nm (nl_nmL hc.1)) hl
  case mks t y z l =>
    simp only [opE] at he ⊢
    split at he
    · rename_i n hl
      split at he
      · rename_i h1
        split at he
        · rename_i h2
          cases he
          refine ⟨.own t (rep n.toNat z), fun q => .s (.sl q 0 0 n.toNat), rfl, rfl, fun h3 => by simp [h1, h2], fun S q hq => hq, fun S hc hF => ?_⟩
          simp only [nlE, Bool.and_eq_true] at hc
          exact rep_nm (nl_nmL hc.1)
        · cases he
      · cases he
    · cases he
  case mkf f a b =>
    simp only [opE] at he ⊢
    split at he
    · rename_i x y hx hy
      split at he
      · rename_i h1
        cases he
        refine ⟨.clo f x y, fun q => .s (.cl q), rfl, rfl, fun h3 => by simp [h1], fun S q hq => hq, fun S hc hF => ?_⟩
        simp only [nlE, Bool.and_eq_true] at hc
        exact ⟨odl_nm hF hc.1 hx, odl_nm hF hc.2 hy⟩
      · cases he
    · cases he
  case mki t x =>
    simp only [opE] at he ⊢
    split at he
    · rename_i v hv
      split at he
      · rename_i h1
        cases he
        exact ⟨.ifc t v, fun q => .s (.iv q), rfl, rfl, fun h3 => by simp [h1], fun S q hq => hq, fun S hc hF => od_nm hF hc hv⟩
      · cases he
    · cases he

theorem cells_app {h t : LH} {i : Nat} {x : Nat × List SV} (he : cellsOf h i = some x) : cellsOf (h ++ t) i = some x := by
  have hl : i < h.length := by
    apply Classical.byContradiction
    intro hn
    unfold cellsOf at he
    rw [List.getElem?_eq_none (by omega)] at he
    cases he
  unfold cellsOf at he ⊢
  rw [List.getElem?_append_left hl]; exact he
theorem elems_app {h t' : LH} {t z : Nat} {v : SV} {l : List SV} (he : elems h t z v = some l) : elems (h ++ t') t z v = some l := by
  unfold elems at he ⊢
  split at he <;> first
    | exact he
    | (cases he; done)
    | skip
  rename_i i p o n hn
  split at he
  · rename_i t1 vs hq
    simp only [cells_app hq]
    exact he
  · cases he
/-- What reads, reads the same with more objects. -/
theorem read_mono {fr : Fr} {h h' : LH} {op : EO} {v : FV} (hc : changesE op = false) (he : opE fr h op = some (v, h')) (t : LH) : opE fr (h ++ t) op = some (v, h ++ t) := by
  cases hl : looksE op with
  | false => exact (nolook hl he).2 _
  | true =>
    cases op <;> first
      | (cases hc; done)
      | (cases hl; done)
      | skip
    case nilf x =>
      simp only [opE] at he ⊢
      split at he
      · rename_i i hx
        split at he
        · rename_i f a b ho
          obtain ⟨rfl, _⟩ := Prod.mk.inj (Option.some.inj he)
          rw [List.getElem?_append_left (List.getElem?_eq_some_iff.1 ho).1, ho]
        · cases he
      · rename_i f hx
        obtain ⟨rfl, _⟩ := Prod.mk.inj (Option.some.inj he); rfl
      · cases he
    case load agg n a =>
      simp only [opE] at he ⊢
      split at he
      · rename_i i o hx
        split at he
        · rename_i t1 vs hq
          simp only [cells_app hq]
          split at he
          · rename_i ha
            split at he
            · rename_i h1
              obtain ⟨rfl, _⟩ := Prod.mk.inj (Option.some.inj he)
              simp [ha, h1]
            · cases he
          · rename_i ha
            split at he
            · rename_i u hu
              obtain ⟨rfl, _⟩ := Prod.mk.inj (Option.some.inj he)
              simp [ha, hu]
            · cases he
        · cases he
      · cases he
    case b2s t1 x =>
      simp only [opE] at he ⊢
      split at he
      · rename_i u hu
        split at he
        · rename_i l hq
          obtain ⟨rfl, _⟩ := Prod.mk.inj (Option.some.inj he)
          obtain ⟨m, h1, h2⟩ := Option.bind_eq_some_iff.1 hq
          rw [elems_app h1]
          simp [h2]
        · cases he
      · cases he
    case sli t1 z x lo hi =>
      simp only [opE] at he ⊢
      split at he
      · split at he
        · obtain ⟨rfl, _⟩ := Prod.mk.inj (Option.some.inj he); rfl
        · cases he
      · rename_i i p o n hx
        split at he
        · rename_i l u t2 vs h1 h2 hq
          simp only [cells_app hq]
          (repeat' split at he) <;> first
            | (cases he; done)
            | (obtain ⟨rfl, _⟩ := Prod.mk.inj (Option.some.inj he); simp [*])
        · cases he
      · cases he
    case iad t1 z x i =>
      simp only [opE] at he ⊢
      split at he
      · rename_i hx hi
        split at he
        · rename_i t2 vs hq
          simp only [cells_app hq]
          (repeat' split at he) <;> first
            | (cases he; done)
            | (obtain ⟨rfl, _⟩ := Prod.mk.inj (Option.some.inj he); simp [*])
        · cases he
      · cases he
    case mlen x =>
      simp only [opE] at he ⊢
      split at he
      · rename_i i hx
        split at he
        · rename_i es hi
          simp only [List.getElem?_append_left (List.getElem?_eq_some_iff.1 hi).1, hi]
          obtain ⟨rfl, _⟩ := Prod.mk.inj (Option.some.inj he); rfl
        · cases he
      · cases he
    case mget q ok z m k =>
      simp only [opE] at he ⊢
      split at he
      · rename_i i u hm hk
        split at he
        · rename_i es hi
          simp only [List.getElem?_append_left (List.getElem?_eq_some_iff.1 hi).1, hi]
          split at he
          · rename_i hk'
            rw [if_pos hk']
            split at he
            · rename_i r hg
              obtain ⟨rfl, _⟩ := Prod.mk.inj (Option.some.inj he)
              simp only [hg]
            · cases he
          · cases he
        · cases he
      · cases he

theorem cells_same {h h2 : LH} {i : Nat} (e : h2[i]? = h[i]?) : cellsOf h2 i = cellsOf h i := by unfold cellsOf; rw [e]
theorem elems_same {h h2 : LH} {t z : Nat} {v : SV} (e : ∀ i p o n, v = .sl i p o n → h2[i]? = h[i]?) : elems h2 t z v = elems h t z v := by
  unfold elems
  split <;> first
    | rfl
    | (rename_i i p o n hn
       rw [cells_same (e i p o n rfl)])
/-- What reads, reads one object alone. -/
theorem read_local {fr : Fr} {h h' h2 : LH} {op : EO} {v : FV} (hc : changesE op = false) (he : opE fr h op = some (v, h')) (hs : ∀ p, rdO fr op = some p → h2[p]? = h[p]?) : opE fr h2 op = some (v, h2) := by
  cases hl : looksE op with
  | false => exact (nolook hl he).2 _
  | true =>
    have hh := nochange hc he
    subst hh
    cases op <;> first
      | (cases hc; done)
      | (cases hl; done)
      | skip
    case nilf x =>
      simp only [opE, rdO] at he hs ⊢
      cases hx : odS fr x with
      | none => rw [hx] at he; cases he
      | some y =>
        rw [hx] at he hs
        cases y <;> first
          | (cases he; done)
          | (obtain ⟨rfl, _⟩ := Prod.mk.inj (Option.some.inj he); rfl)
          | (simp only at he hs ⊢
             rw [hs _ rfl]
             split at he
             · obtain ⟨rfl, _⟩ := Prod.mk.inj (Option.some.inj he); rfl
             · cases he)
    case load agg n a =>
      simp only [opE, rdO] at he hs ⊢
      cases hx : odS fr a with
      | none => rw [hx] at he; cases he
      | some y =>
        rw [hx] at he hs
        cases y <;> first
          | (cases he; done)
          | skip
        simp only at he hs ⊢
        rw [cells_same (hs _ rfl)]
        (repeat' split at he) <;> first
          | (cases he; done)
          | (obtain ⟨rfl, _⟩ := Prod.mk.inj (Option.some.inj he); simp [*])
    case b2s t1 x =>
      simp only [opE, rdO] at he hs ⊢
      cases hx : odS fr x with
      | none => rw [hx] at he; cases he
      | some y =>
        rw [hx] at he hs
        simp only at he ⊢
        have e : elems h2 t1 1 y = elems h' t1 1 y := elems_same fun i p o n hy => by subst hy; exact hs i rfl
        rw [e]
        (repeat' split at he) <;> first
          | (cases he; done)
          | (obtain ⟨rfl, _⟩ := Prod.mk.inj (Option.some.inj he); simp [*])
    case sli t1 z x lo hi =>
      simp only [opE, rdO] at he hs ⊢
      cases hx : odS fr x with
      | none => rw [hx] at he; cases he
      | some y =>
        rw [hx] at he hs
        cases y <;> first
          | (cases he; done)
          | (simp only at he hs ⊢
             rw [cells_same (hs _ rfl)]
             (repeat' split at he) <;> first
               | (cases he; done)
               | (obtain ⟨rfl, _⟩ := Prod.mk.inj (Option.some.inj he); simp [*]))
          | (simp only at he hs ⊢
             (repeat' split at he) <;> first
               | (cases he; done)
               | (obtain ⟨rfl, _⟩ := Prod.mk.inj (Option.some.inj he); simp [*]))
    case iad t1 z x i =>
      simp only [opE, rdO] at he hs ⊢
      cases hx : odS fr x with
      | none => rw [hx] at he; cases he
      | some y =>
        rw [hx] at he hs
        cases y <;> first
          | (cases he; done)
          | skip
        simp only at he hs ⊢
        cases hi : odS fr i with
        | none => rw [hi] at he; cases he
        | some u =>
          rw [hi] at he
          cases u <;> first
            | (cases he; done)
            | skip
          simp only at he ⊢
          rw [cells_same (hs _ rfl)]
          (repeat' split at he) <;> first
            | (cases he; done)
            | (obtain ⟨rfl, _⟩ := Prod.mk.inj (Option.some.inj he); simp [*])
    case mlen x =>
      simp only [opE, rdO] at he hs ⊢
      cases hx : odS fr x with
      | none => rw [hx] at he; cases he
      | some y =>
        rw [hx] at he hs
        cases y <;> first
          | (cases he; done)
          | skip
        simp only at he hs ⊢
        rw [hs _ rfl]
        split at he
        · obtain ⟨rfl, _⟩ := Prod.mk.inj (Option.some.inj he); rfl
        · cases he
    case mget q ok z m k =>
      simp only [opE, rdO] at he hs ⊢
      cases hx : odS fr m with
      | none => rw [hx] at he; cases he
      | some y =>
        rw [hx] at he hs
        cases y <;> first
          | (cases he; done)
          | skip
        cases hu : odS fr k with
        | none => rw [hu] at he; cases he
        | some u =>
          rw [hu] at he
          simp only at he hs ⊢
          rw [hs _ rfl]
          split at he
          · split at he
            · rename_i hk'
              rw [if_pos hk']
              split at he
              · rename_i r hg
                obtain ⟨rfl, _⟩ := Prod.mk.inj (Option.some.inj he)
                simp only [hg]
              · cases he
            · cases he
          · cases he

/-! ### What comes ahead of what -/
theorem fold_bit (acc : Array Nat) (j : Nat) : ∀ (l : List Edge) (s : Nat), (l.foldl (fun s e => if Region.binds .any e then s ||| 2 ^ e.on ||| acc.getD e.on 0 else s) s).testBit j = true →
    s.testBit j = true ∨ ∃ e ∈ l, Region.binds .any e = true ∧ (j = e.on ∨ (acc.getD e.on 0).testBit j = true)
  | [], s, h => .inl h
  | e :: l, s, h => by
    rw [List.foldl_cons] at h
    rcases fold_bit acc j l _ h with h | ⟨e', h1, h2⟩
    · split at h
      · rename_i hb
        rw [Nat.testBit_or, Nat.testBit_or, Nat.testBit_two_pow] at h
        simp only [Bool.or_eq_true, decide_eq_true_eq] at h
        rcases h with (h | h) | h
        · exact .inl h
        · exact .inr ⟨e, List.mem_cons_self, hb, .inl h.symm⟩
        · exact .inr ⟨e, List.mem_cons_self, hb, .inr h⟩
      · exact .inl h
    · exact .inr ⟨e', List.mem_cons_of_mem _ h1, h2⟩

def stepB (acc : Array Nat) (o : Oper) : Array Nat := acc.push (o.after.foldl (fun s e => if Region.binds .any e then s ||| 2 ^ e.on ||| acc.getD e.on 0 else s) 0)

theorem before_fold : ∀ (l : List Oper) (acc : Array Nat) (ops : List Oper), ops.length = acc.size →
    (∀ (i j : Nat), (acc.getD i 0).testBit j = true → ∃ o e, ops[i]? = some o ∧ e ∈ o.after ∧ Region.binds .any e = true ∧ (j = e.on ∨ (acc.getD e.on 0).testBit j = true)) →
    ∀ (i j : Nat), ((l.foldl stepB acc).getD i 0).testBit j = true → ∃ o e, (ops ++ l)[i]? = some o ∧ e ∈ o.after ∧ Region.binds .any e = true ∧ (j = e.on ∨ ((l.foldl stepB acc).getD e.on 0).testBit j = true)
  | [], acc, ops, hs, ha, i, j, h => by simpa using ha i j h
  | o :: l, acc, ops, hs, ha, i, j, h => by
    rw [List.foldl_cons] at h ⊢
    have := before_fold l (stepB acc o) (ops ++ [o]) (by simp [stepB, hs]) (fun i j h => ?_) i j h
    · rw [List.append_assoc] at this; exact this
    · have hget : ∀ k, ((stepB acc o).getD k 0) = if k = acc.size then (o.after.foldl (fun s e => if Region.binds .any e then s ||| 2 ^ e.on ||| acc.getD e.on 0 else s) 0) else acc.getD k 0 := by
        intro k
        simp only [stepB, Array.getD_eq_getD_getElem?, Array.getElem?_push]
        split <;> rfl
      have hmono : ∀ k, (acc.getD k 0).testBit j = true → ((stepB acc o).getD k 0).testBit j = true := by
        intro k hk
        rw [hget]
        split
        · rename_i hk'
          subst hk'
          simp at hk
        · exact hk
      rw [hget] at h
      split at h
      · rename_i hi
        rw [← Array.foldl_toList] at h
        rcases fold_bit acc j _ _ h with h | ⟨e, h1, h2, h3⟩
        · simp at h
        · refine ⟨o, e, by rw [List.getElem?_append_right (by omega)]; simp [hi, hs], Array.mem_toList_iff.1 h1, h2, h3.imp id (hmono _)⟩
      · obtain ⟨o', e, h1, h2, h3, h4⟩ := ha i j h
        refine ⟨o', e, ?_, h2, h3, h4.imp id (hmono _)⟩
        rw [List.getElem?_append_left (List.getElem?_eq_some_iff.1 h1).1]; exact h1

theorem before_spec {ops : Array Oper} {i j : Nat} (h : ((Region.before ops).getD i 0).testBit j = true) : ∃ o e, ops[i]? = some o ∧ e ∈ o.after ∧ Region.binds .any e = true ∧ (j = e.on ∨ ((Region.before ops).getD e.on 0).testBit j = true) := by
  have hb : Region.before ops = ops.toList.foldl stepB #[] := by
    unfold Region.before
    rw [← Array.foldl_toList]; rfl
  rw [hb] at h ⊢
  obtain ⟨o, e, h1, h2⟩ := before_fold ops.toList #[] [] rfl (fun i j h => by simp at h) i j h
  exact ⟨o, e, by simpa using h1, h2⟩

/-! ### A region's run in the text's order, told by numbers -/
structure Tr (call : CallE) (gs : List EG) (fr : Fr) (h : LH) (fr' : Fr) (h' : LH) (frs : Nat → Fr) (hs : Nat → LH) (val : Nat → FV) (want : Nat → Bool) (tr : List (Option TE)) : Prop where
  fr0 : frs 0 = fr
  h0 : hs 0 = h
  frN : frs gs.length = fr'
  hN : hs gs.length = h'
  wantOk : ∀ i g, gs[i]? = some g → wantE (keepF (slotsG g) (frs i)) g.guard = some (want i)
  next : ∀ i g, gs[i]? = some g → frs (i + 1) = fput (frs i) g.dst (some (val i))
  off : ∀ i g, gs[i]? = some g → want i = false → val i = .tup [] ∧ hs (i + 1) = hs i ∧ tr[i]? = some none
  on : ∀ i g, gs[i]? = some g → want i = true → stepE call (keepF (slotsG g) (frs i)) (hs i) g.op = some (val i, hs (i + 1)) ∧ tr[i]? = some (some ⟨keepF (slotsG g) (frs i), hs i, g.op, val i, hs (i + 1)⟩)

def shift {α : Type} (x : α) (f : Nat → α) : Nat → α
  | 0 => x
  | n + 1 => f n

theorem trace_ok {call : CallE} : ∀ (gs : List EG) (fr : Fr) (h : LH) (tr : List (Option TE)) (fr' : Fr) (h' : LH), traceE call gs fr h = some (tr, fr', h') → ∃ frs hs val want, Tr call gs fr h fr' h' frs hs val want tr
  | [], fr, h, tr, fr', h', he => by
    simp only [traceE, Option.some.injEq, Prod.mk.injEq] at he
    obtain ⟨rfl, rfl, rfl⟩ := he
    exact ⟨fun _ => fr, fun _ => h, fun _ => .tup [], fun _ => false, ⟨rfl, rfl, rfl, rfl, by simp, by simp, by simp, by simp⟩⟩
  | g :: gs, fr, h, tr, fr', h', he => by
    simp only [traceE] at he
    split at he
    · rename_i hw
      split at he
      · rename_i v h1 hv
        obtain ⟨⟨tr1, fr1, h2⟩, h3, hq⟩ := Option.map_eq_some_iff.1 he
        simp only [Prod.mk.injEq] at hq
        obtain ⟨rfl, rfl, rfl⟩ := hq
        obtain ⟨frs, hs, val, want, T⟩ := trace_ok gs _ h1 tr1 fr1 h2 h3
        refine ⟨shift fr frs, shift h hs, shift v val, shift true want, ⟨rfl, rfl, T.frN, T.hN, ?_, ?_, ?_, ?_⟩⟩
        · intro i g' hi
          cases i with
          | zero => obtain rfl := Option.some.inj hi; exact hw
          | succ i => exact T.wantOk i g' hi
        · intro i g' hi
          cases i with
          | zero => obtain rfl := Option.some.inj hi; exact T.fr0
          | succ i => exact T.next i g' hi
        · intro i g' hi hf
          cases i with
          | zero => cases hf
          | succ i => exact T.off i g' hi hf
        · intro i g' hi hf
          cases i with
          | zero =>
            obtain rfl := Option.some.inj hi
            have e : hs 0 = h1 := T.h0
            refine ⟨?_, ?_⟩
            · show stepE call (keepF (slotsG g) fr) h g.op = some (v, hs 0)
              rw [e]; exact hv
            · show some (some (⟨keepF (slotsG g) fr, h, g.op, v, h1⟩ : TE)) = some (some ⟨keepF (slotsG g) fr, h, g.op, v, hs 0⟩)
              rw [e]
          | succ i => exact T.on i g' hi hf
      · cases he
    · rename_i hw
      obtain ⟨⟨tr1, fr1, h2⟩, h3, hq⟩ := Option.map_eq_some_iff.1 he
      simp only [Prod.mk.injEq] at hq
      obtain ⟨rfl, rfl, rfl⟩ := hq
      obtain ⟨frs, hs, val, want, T⟩ := trace_ok gs _ h tr1 fr1 h2 h3
      refine ⟨shift fr frs, shift h hs, shift (.tup []) val, shift false want, ⟨rfl, rfl, T.frN, T.hN, ?_, ?_, ?_, ?_⟩⟩
      · intro i g' hi
        cases i with
        | zero => obtain rfl := Option.some.inj hi; exact hw
        | succ i => exact T.wantOk i g' hi
      · intro i g' hi
        cases i with
        | zero => obtain rfl := Option.some.inj hi; exact T.fr0
        | succ i => exact T.next i g' hi
      · intro i g' hi hf
        cases i with
        | zero => exact ⟨rfl, T.h0, rfl⟩
        | succ i => exact T.off i g' hi hf
      · intro i g' hi hf
        cases i with
        | zero => cases hf
        | succ i => exact T.on i g' hi hf
    · cases he

theorem okPairs_mem {call : CallE} {tr : List (Option TE)} : ∀ {l : List (Nat × Nat)}, okPairs call tr l → ∀ p ∈ l, okPair call tr p
  | [], _, p, hp => by cases hp
  | q :: l, h, p, hp => by
    rcases List.mem_cons.1 hp with rfl | hp
    · exact h.1
    · exact okPairs_mem h.2 p hp

end Go.Proofs.YtiljgimcipdadaaGreatDoor.Ev
