/- Regions whose order is open: the proof. -/
import Derived.Test.YtiljgimcipdadaaGreatDoorEvDrawB
set_option linter.unusedVariables false
set_option linter.unusedSimpArgs false
namespace Go.Proofs.YtiljgimcipdadaaGreatDoor.Ev
open Go Go.RowKit

variable {P : Program} {w0 : Base}
section
variable {ρ : Nat → Ph} {h : LH} {w : World} {N : Nat} {fr : Fr} {a : Act} {Q : Exit → Act → World → Prop}

theorem take_append_get {H t : LH} {x q : Nat} (hx : x ≤ H.length) (hq : q < x) : (H.take x ++ t)[q]? = H[q]? := by
  rw [List.getElem?_append_left (by rw [List.length_take]; omega), List.getElem?_take, if_pos hq]

/-- What the machine's run says of lengths. -/
structure Mono (hs : Nat → LH) (n : Nat) (pa : Nat → Prop) : Prop where
  step : ∀ k, k < n → (hs k).length ≤ (hs (k + 1)).length
  one : ∀ k, k < n → pa k → hs (k + 1) ≠ hs k → ∃ o, hs (k + 1) = hs k ++ [o]

theorem Mono.le {hs : Nat → LH} {n : Nat} {pa : Nat → Prop} (M : Mono hs n pa) {x : Nat} : ∀ y, x ≤ y → y ≤ n → (hs x).length ≤ (hs y).length := by
  intro y
  induction y with
  | zero => intro h _; rw [Nat.le_zero.1 h]; exact Nat.le_refl _
  | succ y ih =>
    intro h hn
    by_cases e : x = y + 1
    · rw [e]; exact Nat.le_refl _
    · exact Nat.le_trans (ih (by omega) (by omega)) (M.step y (by omega))

section
variable {hs : Nat → LH} {n m : Nat} {pa E : Nat → Prop} {H : LH}

theorem Early.lens (M : Mono hs n pa) (hpa : ∀ k, Early hs n E m k → pa k) {k : Nat} (he : Early hs n E m k) : (hs (k + 1)).length = (hs k).length + 1 := by
  obtain ⟨o, ho⟩ := M.one k he.2.1 (hpa k he) he.2.2.2
  rw [ho, List.length_append, List.length_singleton]

/-- As far as all changes are done, it is the machine's heap. -/
theorem Pad.take_eq (M : Mono hs n pa) (hpa : ∀ k, Early hs n E m k → pa k) (D : Pad hs n E m H) : ∀ x, m ≤ x → x ≤ n → (∀ k, m ≤ k → k < x → hs (k + 1) ≠ hs k → E k) → H.take (hs x).length = hs x := by
  intro x
  induction x with
  | zero =>
    intro h hn hk
    obtain rfl := Nat.le_zero.1 h
    refine List.ext_getElem? fun q => ?_
    rw [List.getElem?_take]
    split
    · rename_i hq; exact D.old q hq
    · rename_i hq; rw [List.getElem?_eq_none (by omega)]
  | succ x ih =>
    intro h hn hk
    by_cases e : m = x + 1
    · subst e
      refine List.ext_getElem? fun q => ?_
      rw [List.getElem?_take]
      split
      · rename_i hq; exact D.old q hq
      · rename_i hq; rw [List.getElem?_eq_none (by omega)]
    · have ih := ih (by omega) (by omega) (fun k h1 h2 h3 => hk k h1 (by omega) h3)
      by_cases hc : hs (x + 1) = hs x
      · rw [hc]; exact ih
      · have he : Early hs n E m x := ⟨by omega, by omega, hk x (by omega) (by omega) hc, hc⟩
        obtain ⟨o, ho⟩ := M.one x (by omega) (hpa x he) hc
        have hl : (hs (x + 1)).length = (hs x).length + 1 := by rw [ho, List.length_append, List.length_singleton]
        rw [hl, List.take_add_one, ih, D.early x he, ho]
        simp

theorem Pad.allLive (M : Mono hs n pa) (hpa : ∀ k, Early hs n E m k → pa k) : ∀ x, m ≤ x → x ≤ n → (∀ k, m ≤ k → k < x → hs (k + 1) ≠ hs k → E k) → ∀ q, q < (hs x).length → Live hs n E m q := by
  intro x
  induction x with
  | zero => intro h hn hk q hq; obtain rfl := Nat.le_zero.1 h; exact .inl hq
  | succ x ih =>
    intro h hn hk q hq
    by_cases e : m = x + 1
    · subst e; exact .inl hq
    · have ih := ih (by omega) (by omega) (fun k h1 h2 h3 => hk k h1 (by omega) h3)
      by_cases hc : hs (x + 1) = hs x
      · rw [hc] at hq; exact ih q hq
      · have he : Early hs n E m x := ⟨by omega, by omega, hk x (by omega) (by omega) hc, hc⟩
        have := he.lens M hpa
        by_cases hx : q = (hs x).length
        · exact .inr ⟨x, he, hx⟩
        · exact ih q (by omega)

theorem Pad.nmTo (M : Mono hs n pa) (D : Pad hs n E m H) {x : Nat} (hm : m ≤ x) (hx : x ≤ n) : ∀ (q : Nat) (o : LO), q < (hs x).length → H[q]? = some o → nmO (· < (hs x).length) o := by
  intro q o hq ho
  have hml := M.le x hm hx
  by_cases h1 : q < (hs m).length
  · rw [D.old q h1] at ho
    exact nmO_mono (fun p hp => by omega) (D.onm q o ho)
  · by_cases h2 : ∃ k, Early hs n E m k ∧ q = (hs k).length
    · obtain ⟨k, hk, rfl⟩ := h2
      exact nmO_mono (fun p hp => by omega) (D.enm k o hk ho).1
    · have := M.le n hx (Nat.le_refl _)
      rw [D.dead q (by omega) (by omega) (fun k hk he => h2 ⟨k, hk, he⟩)] at ho
      obtain rfl := Option.some.inj ho
      trivial

theorem Pad.nmLive (D : Pad hs n E m H) : ∀ (q : Nat) (o : LO), Live hs n E m q → H[q]? = some o → nmO (Live hs n E m) o := by
  intro q o hq ho
  rcases hq with h1 | ⟨k, hk, rfl⟩
  · rw [D.old q h1] at ho
    exact nmO_mono (fun p hp => .inl hp) (D.onm q o ho)
  · exact (D.enm k o hk ho).2

theorem Pad.nmAll (D : Pad hs n E m H) : ∀ (q : Nat) (o : LO), H[q]? = some o → nmO (Live hs n E m) o := by
  intro q o ho
  by_cases hq : Live hs n E m q
  · exact D.nmLive q o hq ho
  · have hl := (List.getElem?_eq_some_iff.1 ho).1
    rw [D.len] at hl
    have hml : ¬ q < (hs m).length := fun h => hq (.inl h)
    rw [D.dead q (by omega) hl (fun k hk he => hq (.inr ⟨k, hk, he⟩))] at ho
    obtain rfl := Option.some.inj ho
    trivial
end

theorem draw_inv {G : Base → Prop} (hG : Stays P G) (hgd : G w0) {call : CallE} (hcall : ∀ w0, G w0 → CallOK P w0 call) (hgrow : Grows call) {ops : Array Oper} {ord : List Nat} {gs : List EG} (hd : DOk P N ops (fun i => ord.getD i 0) gs) {fr' : Fr} {h' : LH} {frs : Nat → Fr} {hs : Nat → LH} {val : Nat → FV} {want : Nat → Bool} {tr : List (Option TE)}
    (T : Tr call gs fr h fr' h' frs hs val want tr) (hp : okPairs call tr (pairsOf ops ord gs)) {n0 : Nat} {ρ0 : Nat → Ph} (hn0 : n0 = h.length)
    (hQ : ∀ ρ' a' w', Rel P w0 ρ' h' w' → FrR ρ' h'.length N fr' a' → Ext n0 ρ0 ρ' → n0 ≤ h'.length → Q .normal a' w') :
    ∀ (fuel : Nat) (L : Array Bool) (a : Act) (w : World), Inv P w0 N ops (fun i => ord.getD i 0) gs fr hs val ρ0 n0 L a w → ((List.range gs.length).filter fun i => !L.getD i false).length ≤ fuel → wpAny P .any ops Q fuel L a w := by
  -- the machine's run
  have hstepk : ∀ k, k < gs.length → hs (k + 1) ≠ hs k → ∃ gk, gs[k]? = some gk ∧ want k = true ∧ changesE gk.op = true ∧ stepE call (keepF (slotsG gk) (frs k)) (hs k) gk.op = some (val k, hs (k + 1)) ∧ tr[k]? = some (some ⟨keepF (slotsG gk) (frs k), hs k, gk.op, val k, hs (k + 1)⟩) := by
    intro k hk hne
    have hgk : gs[k]? = some gs[k] := List.getElem?_eq_getElem hk
    cases hwk : want k with
    | false => exact absurd (T.off k _ hgk hwk).2.1 hne
    | true =>
      obtain ⟨s1, s2⟩ := T.on k _ hgk hwk
      refine ⟨_, hgk, rfl, ?_, s1, s2⟩
      cases hch : changesE gs[k].op with
      | true => rfl
      | false => exact absurd (step_nochange hch s1) hne
  have M : Mono hs gs.length (fun k => ∃ g, gs[k]? = some g ∧ paE g.op = true) := by
    refine ⟨fun k hk => ?_, fun k hk hpk hne => ?_⟩
    · by_cases hne : hs (k + 1) = hs k
      · rw [hne]; exact Nat.le_refl _
      · obtain ⟨gk, _, _, _, h4, _⟩ := hstepk k hk hne
        exact step_grow hgrow h4
    · obtain ⟨gk, h1, _, _, h4, _⟩ := hstepk k hk hne
      obtain ⟨g, h5, h6⟩ := hpk
      rw [h1] at h5
      obtain rfl := Option.some.inj h5
      unfold stepE at h4
      rw [pa_call h6] at h4
      obtain ⟨o, mk, e, _⟩ := pa_spec h6 h4
      exact ⟨o, e⟩
  have hL0 : n0 = (hs 0).length := by rw [T.h0]; exact hn0
  -- what comes ahead is smaller
  have hlt : ∀ i, i < gs.length → ∀ j, j < gs.length → Bf ops (ord.getD i 0) (ord.getD j 0) = true → j < i := by
    intro i
    induction i using Nat.strongRecOn with
    | _ i ih =>
      intro hi j hj hb
      obtain ⟨o, e, h1, h2, h3, h4⟩ := before_spec hb
      obtain ⟨j', q1, q2⟩ := hd.after i o hi h1 e h2 h3
      rcases h4 with h4 | h4
      · have := hd.inj j j' hj (by omega) (h4.trans q2.symm)
        omega
      · have := ih j' q1 (by omega) j hj (by show Bf ops (ord.getD j' 0) _ = true; rw [show ord.getD j' 0 = e.on from q2]; exact h4)
        omega
  have hready : ∀ {L : Array Bool} {a : Act} {w : World} {x : Nat}, Inv P w0 N ops (fun i => ord.getD i 0) gs fr hs val ρ0 n0 L a w → x ∈ Region.ready .any ops L → x < gs.length ∧ ¬ listed L x ∧ ∀ y, Bf ops x y = true → listed L y := by
    intro L a w x I hx
    obtain ⟨h1, o, ho, h2⟩ := mem_ready.1 hx
    have hxl : x < ops.size := (Array.getElem?_eq_some_iff.1 ho).1
    refine ⟨by rw [← hd.size]; exact hxl, ?_, ?_⟩
    · unfold listed
      have : x < L.size := by rw [I.size]; exact hxl
      rw [Array.getD_eq_getD_getElem?, Array.getElem?_eq_getElem this] at h1 ⊢
      simp only [Option.getD_some] at h1 ⊢
      rw [h1]; decide
    · intro y hb
      obtain ⟨o', e, h3, h4, h5, h6⟩ := before_spec hb
      rw [ho] at h3
      obtain rfl := Option.some.inj h3
      have hl := h2 e h4 h5
      rcases h6 with rfl | h6
      · exact hl
      · exact I.closed e.on y hl h6
  have hall : ∀ {L : Array Bool} {a : Act} {w : World}, Inv P w0 N ops (fun i => ord.getD i 0) gs fr hs val ρ0 n0 L a w → Region.ready .any ops L = [] → ∀ i, i < gs.length → listed L (ord.getD i 0) := by
    intro L a w I hr i
    induction i using Nat.strongRecOn with
    | _ i ih =>
      intro hi
      by_cases hl : listed L (ord.getD i 0)
      · exact hl
      · exfalso
        obtain ⟨o, g, ho, hg, hcg⟩ := hd.get i hi
        have hio : ord.getD i 0 < ops.size := (Array.getElem?_eq_some_iff.1 ho).1
        have : ord.getD i 0 ∈ Region.ready .any ops L := by
          refine mem_ready.2 ⟨?_, o, ho, fun e he hb => ?_⟩
          · have : ord.getD i 0 < L.size := by rw [I.size]; exact hio
            unfold listed at hl
            rw [Array.getD_eq_getD_getElem?, Array.getElem?_eq_getElem this] at hl ⊢
            simp only [Option.getD_some] at hl ⊢
            cases hq : L[ord.getD i 0]
            · rfl
            · rw [hq] at hl; exact absurd rfl hl
          · obtain ⟨j, q1, q2⟩ := hd.after i o hi ho e he hb
            have := ih j q1 (by omega)
            rw [show ord.getD j 0 = e.on from q2] at this
            exact this
        rw [hr] at this; cases this
  have hfin : ∀ {L : Array Bool} {a : Act} {w : World}, Inv P w0 N ops (fun i => ord.getD i 0) gs fr hs val ρ0 n0 L a w → (∀ i, i < gs.length → listed L (ord.getD i 0)) → Q .normal a w := by
    intro L a w I hl
    obtain ⟨ρ, m, H, hm, hcan, h1, h2, D, R, hE, hK⟩ := I.heap
    have hpa : ∀ k, Early hs gs.length (fun k => listed L (ord.getD k 0)) m k → ∃ g, gs[k]? = some g ∧ paE g.op = true := by
      intro k hk
      have hkl : k < gs.length := hk.2.1
      have hgk : gs[k]? = some gs[k] := List.getElem?_eq_getElem hkl
      exact ⟨_, hgk, h2 k _ hk.1 hgk hk.2.2.1 hk.2.2.2⟩
    have hHN := D.take_eq M hpa gs.length hm (Nat.le_refl _) (fun k _ hk _ => hl k hk)
    rw [List.take_of_length_le (by rw [D.len]; exact Nat.le_refl _), T.hN] at hHN
    subst hHN
    refine hQ ρ a w R ⟨I.tsize, I.defers, fun t v hv => ?_⟩ hE (by rw [hL0]; have := M.le gs.length (Nat.zero_le _) (Nat.le_refl _); rw [T.hN] at this; exact this)
    rw [← T.frN] at hv
    have hkn : ∃ p, Kn gs fr val (fun k => listed L (ord.getD k 0)) t v p := by
      rcases frs_get T gs.length (Nat.le_refl _) t v hv with ⟨j, g, q1, q2, q3, q4⟩ | ⟨q1, q2⟩
      · exact ⟨_, .inl ⟨j, g, hl j q1, q2, q3, q4, rfl⟩⟩
      · exact ⟨_, .inr ⟨fun j g hj hg => q1 j g (List.getElem?_eq_some_iff.1 hg).1 hg, q2, rfl⟩⟩
    obtain ⟨p, hkn⟩ := hkn
    obtain ⟨r1, r2, r3, _, r5⟩ := hK t v p hkn
    refine ⟨r1, r2, wfV_ext (Ext.refl _ _) ?_ r3⟩
    have := M.le gs.length (x := max m p) (by omega) (Nat.le_refl _)
    rw [T.hN] at this; exact this
  intro fuel
  induction fuel with
  | zero =>
    intro L a w I hf
    have hl : ∀ i, i < gs.length → listed L (ord.getD i 0) := by
      intro i hi
      apply Classical.byContradiction
      intro hne
      have : ord.getD i 0 ∈ (List.range gs.length).filter fun i => !L.getD i false := by
        refine List.mem_filter.2 ⟨List.mem_range.2 (hd.lt i hi), ?_⟩
        unfold listed at hne
        simpa using hne
      have := List.length_pos_of_mem this
      omega
    refine ⟨?_, hfin I hl⟩
    cases hr : Region.ready .any ops L with
    | nil => rfl
    | cons i r =>
      obtain ⟨q1, q2, _⟩ := hready I (by rw [hr]; exact List.mem_cons_self)
      obtain ⟨k, k1, k2⟩ := hd.surj i q1
      exact absurd (by rw [← k2]; exact hl k k1) q2
  | succ fuel ih =>
    intro L a w I hf
    refine ⟨fun hr => hfin I (hall I hr), fun x hx => ?_⟩
    obtain ⟨hxl, hnx, hbx⟩ := hready I hx
    obtain ⟨i, hil, hix⟩ := hd.surj x hxl
    have hix : ord.getD i 0 = x := hix
    subst hix
    have hnl : ¬ listed L (ord.getD i 0) := hnx
    have hbef : ∀ j, Bf ops (ord.getD i 0) (ord.getD j 0) = true → listed L (ord.getD j 0) := fun j hb => hbx _ hb
    have hLi : ord.getD i 0 < L.size := by rw [I.size, hd.size]; exact hxl
    obtain ⟨o, g, hopi, hg, hcg⟩ := hd.get i hil
    have hopi : ops[ord.getD i 0]? = some o := hopi
    obtain ⟨d1, d2, ⟨d3, d3'⟩, d4⟩ := compG_ok hcg
    obtain ⟨ρ, m, H, hm, hcan, h1, h2, D, R, hE, hK⟩ := I.heap
    -- names
    have hpa : ∀ k, Early hs gs.length (fun k => listed L (ord.getD k 0)) m k → ∃ g, gs[k]? = some g ∧ paE g.op = true := by
      intro k hk
      have hkl : k < gs.length := hk.2.1
      have hgk : gs[k]? = some gs[k] := List.getElem?_eq_getElem hkl
      exact ⟨_, hgk, h2 k _ hk.1 hgk hk.2.2.1 hk.2.2.2⟩
    have hls : ∀ {k : Nat}, k < gs.length → (listed (L.setIfInBounds (ord.getD i 0) true) (ord.getD k 0) ↔ k = i ∨ listed L (ord.getD k 0)) := by
      intro k hk
      rw [listed_set hLi]
      constructor
      · rintro (h | h)
        · exact .inl (hd.inj k i hk hil h)
        · exact .inr h
      · rintro (rfl | h)
        · exact .inl rfl
        · exact .inr h
    have hclosed' : ∀ x y, listed (L.setIfInBounds (ord.getD i 0) true) x → Bf ops x y = true → listed (L.setIfInBounds (ord.getD i 0) true) y := by
      intro x y hx hb
      rcases (listed_set hLi).1 hx with rfl | hx
      · exact (listed_set hLi).2 (.inr (hbx y hb))
      · exact (listed_set hLi).2 (.inr (I.closed x y hx hb))
    have hfuel' : ((List.range gs.length).filter fun j => !(L.setIfInBounds (ord.getD i 0) true).getD j false).length ≤ fuel := by
      have := filter_lt (p := fun j => !L.getD j false) (q := fun j => !(L.setIfInBounds (ord.getD i 0) true).getD j false) (List.range gs.length) (ord.getD i 0) (List.mem_range.2 hxl) (fun j hq => ?_) ?_ ?_
      · omega
      · have h0 : ¬ listed (L.setIfInBounds (ord.getD i 0) true) j := by unfold listed; simpa using hq
        have h1' : ¬ listed L j := fun hh => h0 ((listed_set hLi).2 (.inr hh))
        unfold listed at h1'; simpa using h1'
      · unfold listed at hnl; simpa using hnl
      · have : listed (L.setIfInBounds (ord.getD i 0) true) (ord.getD i 0) := (listed_set hLi).2 (.inl rfl)
        unfold listed at this; simpa using this
    -- the frame of the slots that it looks at
    have hFk : ∀ t v, fget (keepF (slotsG g) (frs i)) t = some v → ∃ p, p ≤ i ∧ Kn gs fr val (fun k => listed L (ord.getD k 0)) t v p := by
      intro t v hv
      have htm := mem_keep hv
      have hv' := fget_keep hv
      rcases frs_get T i (by omega) t v hv' with ⟨j, g', q1, q2, q3, q4⟩ | ⟨q1, q2⟩
      · refine ⟨j + 1, q1, .inl ⟨j, g', ?_, q2, q3, q4, rfl⟩⟩
        have hjl := (List.getElem?_eq_some_iff.1 q2).1
        rcases (hd.slots i j t g g' hg q2 q3).2 htm with r | r | r
        · omega
        · exact hbef j r
        · have := hlt j hjl i hil r; omega
      · refine ⟨0, Nat.zero_le _, .inr ⟨fun j g' hj hjg hdst => ?_, q2, rfl⟩⟩
        have hjl := (List.getElem?_eq_some_iff.1 hjg).1
        rcases (hd.slots i j t g g' hg hjg hdst).2 htm with r | r | r
        · subst r; exact hnl hj
        · exact q1 j g' (hlt i hil j hjl r) hjg hdst
        · exact hnl (I.closed _ _ hj r)
    have hF : FrR ρ (hs (max m i)).length N (keepF (slotsG g) (frs i)) a := by
      refine ⟨I.tsize, I.defers, fun t v hv => ?_⟩
      obtain ⟨p, hp, hkn⟩ := hFk t v hv
      obtain ⟨r1, r2, r3, _, r5⟩ := hK t v p hkn
      exact ⟨r1, r2, wfV_ext (Ext.refl _ _) (M.le (max m i) (x := max m p) (by omega) (by omega)) r3⟩
    have hFlive : FrN (Live hs gs.length (fun k => listed L (ord.getD k 0)) m) (keepF (slotsG g) (frs i)) := by
      intro t v hv
      obtain ⟨p, hp, hkn⟩ := hFk t v hv
      exact (hK t v p hkn).2.2.2.1
    have hFlt : ∀ n', frLt n' (keepF (slotsG g) (frs i)) → FrR ρ n' N (keepF (slotsG g) (frs i)) a := by
      intro n' hlt'
      refine ⟨I.tsize, I.defers, fun t v hv => ?_⟩
      obtain ⟨r1, r2, r3⟩ := hF.get t v hv
      exact ⟨r1, r2, (wfV_re r3 (frLt_get hlt' t v hv) (nmV_true (fun _ => rfl) v)).1⟩
    -- what is known when it is done
    have hknown : ∀ t v p, Kn gs fr val (fun k => listed (L.setIfInBounds (ord.getD i 0) true) (ord.getD k 0)) t v p → (g.dst = some t ∧ v = val i ∧ p = i + 1) ∨ (g.dst ≠ some t ∧ Kn gs fr val (fun k => listed L (ord.getD k 0)) t v p) := by
      intro t v p hk
      rcases hk with ⟨j, g', q1, q2, q3, q4, q5⟩ | ⟨q1, q2, q3⟩
      · have hjl := (List.getElem?_eq_some_iff.1 q2).1
        rcases (hls hjl).1 q1 with rfl | q1
        · rw [hg] at q2
          obtain rfl := Option.some.inj q2
          exact .inl ⟨q3, q4, q5⟩
        · have hne : i ≠ j := fun e => hnl (e ▸ q1)
          exact .inr ⟨(hd.slots i j t g g' hg q2 q3).1 hne, .inl ⟨j, g', q1, q2, q3, q4, q5⟩⟩
      · refine .inr ⟨q1 i g ((hls hil).2 (.inl rfl)) hg, .inr ⟨fun j g' hj hjg => q1 j g' ((hls (List.getElem?_eq_some_iff.1 hjg).1).2 (.inr hj)) hjg, q2, q3⟩⟩
    have hsz : ∀ (x : Value), (a.put o.dst x).tmps.size = N ∧ (a.put o.dst x).defers = [] := by
      intro x
      cases o.dst with
      | none => exact ⟨I.tsize, I.defers⟩
      | some d => exact ⟨by simp [Act.put, I.tsize], I.defers⟩
    have hsize' : (L.setIfInBounds (ord.getD i 0) true).size = ops.size := by rw [Array.size_setIfInBounds, I.size]
    -- the values, in a later placing
    have hput : ∀ (ρ' : Nat → Ph) (m' : Nat) (S : Nat → Prop), m ≤ m' → m' ≤ gs.length → (∀ q, Live hs gs.length (fun k => listed L (ord.getD k 0)) m q → ρ' q = ρ q ∧ S q) → wfV ρ' (hs (max m' (i + 1))).length (val i) → nmV S (val i) →
        ∀ t v p, Kn gs fr val (fun k => listed (L.setIfInBounds (ord.getD i 0) true) (ord.getD k 0)) t v p → t < N ∧ (a.put o.dst (cv ρ' (val i))).tmps.getD t undef = cv ρ' v ∧ wfV ρ' (hs (max m' p)).length v ∧ nmV S v ∧ p ≤ gs.length := by
      intro ρ' m' S hmm hmn hS hwx hnx t v p hkn
      rcases hknown t v p hkn with ⟨q1, rfl, rfl⟩ | ⟨q1, q2⟩
      · rw [d2] at q1
        have htN := d1 t q1
        rw [q1]
        exact ⟨htN, getD_set_self (by rw [I.tsize]; exact htN), hwx, hnx, hil⟩
      · obtain ⟨r1, r2, r3, r4, r5⟩ := hK t v p q2
        obtain ⟨s1, s2⟩ := wfV_re (m := (hs (max m' p)).length) r3 (nmV_mono (fun q hq => Nat.lt_of_lt_of_le hq (M.le (max m' p) (x := max m p) (by omega) (by omega))) (wfV_nm r3)) (nmV_mono (fun q hq => (hS q hq).1) r4)
        refine ⟨r1, ?_, s1, nmV_mono (fun q hq => (hS q hq).2) r4, r5⟩
        rw [s2]
        cases hdd : g.dst with
        | none => rw [← d2, hdd]; exact r2
        | some d =>
          rw [hdd] at q1
          rw [← d2, hdd]
          exact (getD_set_ne (fun e => q1 (by rw [e]))).trans r2
    -- a heap that stays as it is
    have hLive0 : hs (i + 1) = hs i → ∀ q, Live hs gs.length (fun k => listed (L.setIfInBounds (ord.getD i 0) true) (ord.getD k 0)) m q ↔ Live hs gs.length (fun k => listed L (ord.getD k 0)) m q := by
      intro heff q
      constructor
      · rintro (h | ⟨k, ⟨k1, k2, k3, k4⟩, k5⟩)
        · exact .inl h
        · rcases (hls k2).1 k3 with rfl | k3
          · exact absurd heff k4
          · exact .inr ⟨k, ⟨k1, k2, k3, k4⟩, k5⟩
      · rintro (h | ⟨k, ⟨k1, k2, k3, k4⟩, k5⟩)
        · exact .inl h
        · exact .inr ⟨k, ⟨k1, k2, (hls k2).2 (.inr k3), k4⟩, k5⟩
    have hstay : ∀ (ρ' : Nat → Ph) (w' : World), hs (i + 1) = hs i → Rel P w0 ρ' H w' → (∀ q, Live hs gs.length (fun k => listed L (ord.getD k 0)) m q → ρ' q = ρ q) → Ext n0 ρ ρ' → wfV ρ' (hs (max m (i + 1))).length (val i) →
        nmV (Live hs gs.length (fun k => listed L (ord.getD k 0)) m) (val i) → wpAny P .any ops Q fuel (L.setIfInBounds (ord.getD i 0) true) (a.put o.dst (cv ρ' (val i))) w' := by
      intro ρ' w' heff R' hag hE' hwf hnm
      have hL0 := hLive0 heff
      have hEa : ∀ k, Early hs gs.length (fun k => listed (L.setIfInBounds (ord.getD i 0) true) (ord.getD k 0)) m k ↔ Early hs gs.length (fun k => listed L (ord.getD k 0)) m k := by
        intro k
        constructor
        · rintro ⟨k1, k2, k3, k4⟩
          rcases (hls k2).1 k3 with rfl | k3
          · exact absurd heff k4
          · exact ⟨k1, k2, k3, k4⟩
        · rintro ⟨k1, k2, k3, k4⟩
          exact ⟨k1, k2, (hls k2).2 (.inr k3), k4⟩
      refine ih _ _ _ ⟨hsize', hclosed', (hsz _).1, (hsz _).2, ρ', m, H, hm, hcan, fun k hk hne => (hls (by omega)).2 (.inr (h1 k hk hne)), fun k gk hk hgk hlk hne => ?_, ?_, R', fun q hq => (hE' q hq).trans (hE q hq), ?_⟩ hfuel'
      · rcases (hls (List.getElem?_eq_some_iff.1 hgk).1).1 hlk with rfl | hlk
        · exact absurd heff hne
        · exact h2 k gk hk hgk hlk hne
      · refine ⟨D.len, D.old, D.onm, fun k hk => D.early k ((hEa k).1 hk), fun k o hk ho => ?_, fun q q1 q2 q3 => D.dead q q1 q2 fun k hk => q3 k ((hEa k).2 hk)⟩
        obtain ⟨e1, e2⟩ := D.enm k o ((hEa k).1 hk) ho
        exact ⟨e1, nmO_mono (fun q hq => (hL0 q).2 hq) e2⟩
      · exact hput ρ' m _ (Nat.le_refl _) hm (fun q hq => ⟨hag q hq, (hL0 q).2 hq⟩) hwf (nmV_mono (fun q hq => (hL0 q).2 hq) hnm)
    -- one step of it, on the first objects
    have hrun : ∀ (x y : Nat) (g1 : LH), m ≤ x → x ≤ y → y ≤ gs.length → (∀ q, Live hs gs.length (fun k => listed L (ord.getD k 0)) m q → q < (hs x).length ∨ (hs y).length ≤ q) → g1.length = (hs y).length →
        stepE call (keepF (slotsG g) (frs i)) (H.take (hs x).length) g.op = some (val i, g1) → FrR ρ (hs x).length N (keepF (slotsG g) (frs i)) a →
        ∀ (K : Act → World → Prop), (∀ ρ' w', (∀ (q : Nat) (o : LO), g1[q]? = some o → nmO (· < (hs y).length) o) → Rel P w0 ρ' (g1 ++ H.drop (hs y).length) w' → (∀ q, Live hs gs.length (fun k => listed L (ord.getD k 0)) m q → ρ' q = ρ q) → Ext (hs x).length ρ ρ' → wfV ρ' (hs y).length (val i) → K (a.put o.dst (cv ρ' (val i))) w') → o.wp P a w K Q := by
      intro x y g1 hmx hxy hyn hdis hgl hst hFx K hKK
      have hxl := M.le y hxy hyn
      have hyl := M.le gs.length hyn (Nat.le_refl _)
      have hHl := D.len
      have hlen : (H.take (hs x).length).length = (hs x).length := by rw [List.length_take]; omega
      have Rp := R.part (x := (hs x).length) (n := (hs y).length) hxl (by omega) (D.nmTo M hmx (by omega))
      refine step_ok (hcall _ (hG _ _ _ _ _ R hgd)) Rp (by rw [hlen]; exact hFx) d3 d3' hst fun ρ1 w1 q1 q2 q3 q4 => ?_
      rw [hlen] at q2
      rw [hgl] at q4
      have hag : ∀ q, Live hs gs.length (fun k => listed L (ord.getD k 0)) m q → (if q < (hs y).length then ρ1 q else ρ q) = ρ q := by
        intro q hq
        split
        · rcases hdis q hq with h | h
          · exact q2 q h
          · omega
        · rfl
      have Rj := R.join hgl (by omega) q1 (fun q o hq ho => nmO_mono hag (D.nmAll q o ho))
      have e4 := wfV_re (ρ' := fun q => if q < (hs y).length then ρ1 q else ρ q) q4 (wfV_nm q4) (nmV_mono (fun q hq => if_pos hq) (wfV_nm q4))
      rw [← e4.2]
      refine hKK _ w1 (fun q o ho => by have := (q1.obj q o ho).nm; rw [hgl] at this; exact this) Rj hag (fun q hq => ?_) e4.1
      show (if q < (hs y).length then ρ1 q else ρ q) = ρ q
      rw [if_pos (by omega)]
      exact q2 q hq
    unfold Go.wpOp
    rw [hopi]
    simp only
    have hFw : FrR ρ (hs (max m i)).length N (keepF (slotsG g) (frs i)) a := hF
    rw [want_ok hFw hcg (T.wantOk i g hg)]
    cases hwi : want i with
    | false =>
      simp only [Bool.false_eq_true, if_false]
      obtain ⟨t1, t2, t3⟩ := T.off i g hg hwi
      have := hstay ρ w t2 R (fun _ _ => rfl) (fun _ _ => rfl) (by rw [t1]; intro v hv; cases hv) (by rw [t1]; trivial)
      rw [t1] at this
      exact this
    | true =>
      simp only [if_true]
      obtain ⟨t1, t2⟩ := T.on i g hg hwi
      have hpair : ∀ k, k < gs.length → hs (k + 1) ≠ hs k → k ≠ i → looksE g.op = true → paE g.op = false → (k < i ∨ ∃ gk, gs[k]? = some gk ∧ paE gk.op = false) → Bf ops (ord.getD k 0) (ord.getD i 0) = false → Bf ops (ord.getD i 0) (ord.getD k 0) = false →
          (stepE call (keepF (slotsG g) (frs i)) (hs k) g.op = some (val i, hs k) ∧ stepE call (keepF (slotsG g) (frs i)) (hs (k + 1)) g.op = some (val i, hs (k + 1)) ∧ (changesE g.op = true → hs (i + 1) = hs i ∧ frLt (hs k).length (keepF (slotsG g) (frs i)))) ∨ (changesE g.op = false ∧ rdAft (hs (k + 1)).length (keepF (slotsG g) (frs i)) g.op) := by
        intro k hk hne hki hl hpi hk3 hb1 hb2
        obtain ⟨gk, hgk, hwk, hch, _, htk⟩ := hstepk k hk hne
        have h3 : paE gk.op = false ∨ k < i := by
          rcases hk3 with h | ⟨g', h, h'⟩
          · exact .inr h
          · rw [hgk] at h; obtain rfl := Option.some.inj h; exact .inl h'
        have := okPairs_mem hp _ (mem_pairs hg hgk hl hpi hch (Ne.symm hki) hb1 hb2 h3)
        unfold okPair at this
        simp only [t2, htk] at this
        rcases this with h | h
        · exact absurd h hne
        · exact h
      have hnotB : ∀ {x y : Nat}, ¬ (Bf ops x y = true) → Bf ops x y = false := fun h => by simpa using h
      cases hpi : paE g.op with
      | true =>
        -- one object of its own, maybe ahead of its turn
        have hst := t1
        unfold stepE at hst
        rw [pa_call hpi] at hst
        obtain ⟨ob, mk, e1, e2, e3, e4, e5⟩ := pa_spec hpi hst
        have hne : hs (i + 1) ≠ hs i := by
          rw [e1]; intro h
          have := congrArg List.length h
          rw [List.length_append, List.length_singleton] at this; omega
        have hmi : m ≤ i := by
          apply Classical.byContradiction
          intro hq
          exact hnl (h1 i (by omega) hne)
        have hmax : max m i = i := by omega
        rw [hmax] at hF
        have hli : (hs (i + 1)).length = (hs i).length + 1 := by rw [e1, List.length_append, List.length_singleton]
        have hiN := M.le gs.length (x := i + 1) hil (Nat.le_refl _)
        have hmil := M.le i hmi (by omega)
        have hHl := D.len
        have htl : (H.take (hs i).length).length = (hs i).length := by rw [List.length_take]; omega
        have hkne : ∀ k, Early hs gs.length (fun k => listed L (ord.getD k 0)) m k → (hs k).length ≠ (hs i).length := by
          intro k hk he
          rcases Nat.lt_trichotomy k i with hlt | rfl | hgt
          · have := hk.lens M hpa
            have := M.le i (x := k + 1) hlt (by omega)
            omega
          · exact hnl hk.2.2.1
          · have := M.le k (x := i + 1) hgt (by have := hk.2.1; omega)
            omega
        have hst' : stepE call (keepF (slotsG g) (frs i)) (H.take (hs i).length) g.op = some (val i, H.take (hs i).length ++ [ob]) := by
          unfold stepE
          rw [pa_call hpi]
          have := e3 (H.take (hs i).length)
          rw [htl, ← e2] at this
          exact this
        refine .inl (hrun i (i + 1) _ hmi (Nat.le_succ _) hil (fun q hq => ?_) (by rw [List.length_append, htl, List.length_singleton, hli]) hst' hF _ fun ρ' w' q0 q1 q2 q3 q4 => ?_)
        · rcases hq with hq | ⟨k, hk, rfl⟩
          · exact .inl (by omega)
          · have := hkne k hk; omega
        · -- the heap behind it
          have hH' : ∀ q, (H.take (hs i).length ++ [ob] ++ H.drop (hs (i + 1)).length)[q]? = if q = (hs i).length then some ob else H[q]? := by
            intro q
            rcases Nat.lt_trichotomy q (hs i).length with hlt | rfl | hgt
            · rw [List.append_assoc, take_append_get (by omega) hlt, if_neg (by omega)]
            · rw [if_pos rfl, List.getElem?_append_left (by rw [List.length_append, htl, List.length_singleton]; omega), List.getElem?_append_right (by omega), htl, Nat.sub_self]; rfl
            · rw [if_neg (by omega), List.getElem?_append_right (by rw [List.length_append, htl, List.length_singleton]; omega), List.getElem?_drop, List.length_append, htl, List.length_singleton, hli]
              congr 1; omega
          have hEa : ∀ k, Early hs gs.length (fun k => listed (L.setIfInBounds (ord.getD i 0) true) (ord.getD k 0)) m k ↔ k = i ∨ Early hs gs.length (fun k => listed L (ord.getD k 0)) m k := by
            intro k
            constructor
            · rintro ⟨k1, k2, k3, k4⟩
              exact ((hls k2).1 k3).imp id fun k3 => ⟨k1, k2, k3, k4⟩
            · rintro (rfl | ⟨k1, k2, k3, k4⟩)
              · exact ⟨hmi, hil, (hls hil).2 (.inl rfl), hne⟩
              · exact ⟨k1, k2, (hls k2).2 (.inr k3), k4⟩
          have hLa : ∀ q, Live hs gs.length (fun k => listed L (ord.getD k 0)) m q → Live hs gs.length (fun k => listed (L.setIfInBounds (ord.getD i 0) true) (ord.getD k 0)) m q := by
            rintro q (h | ⟨k, hk, h⟩)
            · exact .inl h
            · exact .inr ⟨k, (hEa k).2 (.inr hk), h⟩
          have hLi' : Live hs gs.length (fun k => listed (L.setIfInBounds (ord.getD i 0) true) (ord.getD k 0)) m (hs i).length := .inr ⟨i, (hEa i).2 (.inl rfl), rfl⟩
          refine ih _ _ _ ⟨hsize', hclosed', (hsz _).1, (hsz _).2, ρ', m, _, hm, hcan, fun k hk hne => (hls (by omega)).2 (.inr (h1 k hk hne)), fun k gk hk hgk hlk hne' => ?_, ?_, q1, fun q hq => ?_, ?_⟩ hfuel'
          · rcases (hls (List.getElem?_eq_some_iff.1 hgk).1).1 hlk with rfl | hlk
            · rw [hg] at hgk
              obtain rfl := Option.some.inj hgk
              exact hpi
            · exact h2 k gk hk hgk hlk hne'
          · refine ⟨?_, fun q hq => ?_, D.onm, fun k hk => ?_, fun k o hk ho => ?_, fun q q1 q2 q3 => ?_⟩
            · rw [List.length_append, List.length_append, htl, List.length_singleton, List.length_drop, hli]; omega
            · rw [hH', if_neg (by omega)]; exact D.old q hq
            · rw [hH']
              rcases (hEa k).1 hk with rfl | hk
              · rw [if_pos rfl, e1, List.getElem?_append_right (Nat.le_refl _), Nat.sub_self]; rfl
              · rw [if_neg (hkne k hk)]; exact D.early k hk
            · rw [hH'] at ho
              rcases (hEa k).1 hk with rfl | hk
              · rw [if_pos rfl] at ho
                obtain rfl := Option.some.inj ho
                have hnl' := hd.nl k g hg
                refine ⟨e5 _ hnl' fun t v hv => ?_, nmO_mono hLa (e5 _ hnl' hFlive)⟩
                exact wfV_nm (hF.get t v hv).2.2
              · rw [if_neg (hkne k hk)] at ho
                obtain ⟨s1, s2⟩ := D.enm k o hk ho
                exact ⟨s1, nmO_mono hLa s2⟩
            · rw [hH', if_neg (q3 i ((hEa i).2 (.inl rfl)))]
              exact D.dead q q1 q2 fun k hk => q3 k ((hEa k).2 (.inr hk))
          · exact (q3 q (by have := M.le i (Nat.zero_le _) (by omega); omega)).trans (hE q hq)
          · have hmx : max m (i + 1) = i + 1 := by omega
            refine hput ρ' m _ (Nat.le_refl _) hm (fun q hq => ⟨q2 q hq, hLa q hq⟩) (by rw [hmx]; exact q4) ?_
            rw [e2]
            exact e4 _ _ hLi'
      | false =>
        -- where it may be run: a heap of the machine's, of which all is there
        have hsrc : changesE g.op = true → hs (i + 1) = hs i → ∃ x, m ≤ x ∧ x ≤ max m i ∧ (∀ k, m ≤ k → k < x → hs (k + 1) ≠ hs k → listed L (ord.getD k 0)) ∧ stepE call (keepF (slotsG g) (frs i)) (hs x) g.op = some (val i, hs x) ∧ FrR ρ (hs x).length N (keepF (slotsG g) (frs i)) a := by
          intro hch heff
          have hl := change_look hch
          rw [heff] at t1
          rcases Nat.lt_or_ge i m with him | him
          · rcases hcan with rfl | ⟨k, gk, rfl, hgk, hpk, hne⟩
            · omega
            · have hki : k ≠ i := fun e => hne (e ▸ heff)
              have hkl := h1 k (Nat.lt_succ_self _) hne
              obtain ⟨_, s2, s3⟩ | ⟨s3, _⟩ := hpair k (by omega) hne hki hl hpi (.inr ⟨gk, hgk, hpk⟩) (hnotB fun hb => hnl (I.closed _ _ hkl hb)) (hnotB fun hb => by have := hlt i hil k (by omega) hb; omega)
              · refine ⟨k + 1, Nat.le_refl _, by omega, fun k' h1 h2 => by omega, s2, hFlt _ ?_⟩
                have h3 := (s3 hch).2
                have hlek := M.step k (by omega)
                exact frLt_mono hlek h3
              · rw [hch] at s3; cases s3
          · have hmax : max m i = i := by omega
            rw [hmax]
            by_cases hex : ∃ k, m ≤ k ∧ k < i ∧ hs (k + 1) ≠ hs k ∧ ¬ listed L (ord.getD k 0)
            · -- the first one that is not done
              obtain ⟨k, ⟨k1, k2, k3, k4⟩, kmin⟩ := first_of (fun k => m ≤ k ∧ k < i ∧ hs (k + 1) ≠ hs k ∧ ¬ listed L (ord.getD k 0)) hex
              obtain ⟨s1, _, s3⟩ | ⟨s3, _⟩ := hpair k (by omega) k3 (by omega) hl hpi (.inl k2) (hnotB fun hb => by have := hlt k (by omega) i hil hb; omega) (hnotB fun hb => k4 (hbef k hb))
              · refine ⟨k, k1, by omega, fun k' q1 q2 q3 => ?_, s1, hFlt _ (s3 hch).2⟩
                apply Classical.byContradiction
                intro hq
                exact kmin k' q2 ⟨q1, by omega, q3, hq⟩
              · rw [hch] at s3; cases s3
            · refine ⟨i, him, Nat.le_refl _, fun k q1 q2 q3 => ?_, t1, by rw [hmax] at hF; exact hF⟩
              apply Classical.byContradiction
              intro hq
              exact hex ⟨k, q1, q2, q3, hq⟩
        -- what reads: the object that it reads is there as it was
        have hrd : looksE g.op = true → changesE g.op = false → stepE call (keepF (slotsG g) (frs i)) (H.take (hs (max m i)).length) g.op = some (val i, H.take (hs (max m i)).length) := by
          intro hl hch
          have heff : hs (i + 1) = hs i := step_nochange hch t1
          have hnc : isCall g.op = false := call_change hch
          have hst := t1
          rw [heff] at hst
          -- from a heap of the machine's where it is the same
          have key : ∀ x, stepE call (keepF (slotsG g) (frs i)) (hs x) g.op = some (val i, hs x) → (∀ p, rdO (keepF (slotsG g) (frs i)) g.op = some p → p < (hs (max m i)).length ∧ H[p]? = (hs x)[p]?) → stepE call (keepF (slotsG g) (frs i)) (H.take (hs (max m i)).length) g.op = some (val i, H.take (hs (max m i)).length) := by
            intro x hx hpx
            unfold stepE at hx ⊢
            rw [hnc] at hx ⊢
            refine read_local hch hx fun p hpr => ?_
            obtain ⟨h1, h2⟩ := hpx p hpr
            rw [List.getElem?_take, if_pos h1, h2]
          cases hpr : rdO (keepF (slotsG g) (frs i)) g.op with
          | none => exact key i hst fun p hq => by rw [hpr] at hq; cases hq
          | some p =>
            have haft : ∀ n', rdAft n' (keepF (slotsG g) (frs i)) g.op → n' ≤ p := fun n' h => by unfold rdAft at h; rw [hpr] at h; exact h
            have hpl : Live hs gs.length (fun k => listed L (ord.getD k 0)) m p := rd_nm (hd.nl i g hg) hFlive hpr
            have hpi' : p < (hs (max m i)).length := rd_lt (hd.nl i g hg) (fun t v hv => wfV_nm (hF.get t v hv).2.2) hpr
            rcases hpl with hpm | ⟨k, hk, hpk⟩
            · -- it was there
              rcases Nat.lt_or_ge i m with him | him
              · rcases hcan with rfl | ⟨k, gk, rfl, hgk, hpk, hne⟩
                · omega
                · have hki : k ≠ i := fun e => hne (e ▸ heff)
                  have hkl := h1 k (Nat.lt_succ_self _) hne
                  obtain ⟨_, s2, _⟩ | ⟨_, s3⟩ := hpair k (by omega) hne hki hl hpi (.inr ⟨gk, hgk, hpk⟩) (hnotB fun hb => hnl (I.closed _ _ hkl hb)) (hnotB fun hb => by have := hlt i hil k (by omega) hb; omega)
                  · exact key (k + 1) s2 fun q hq => by rw [hpr] at hq; obtain rfl := Option.some.inj hq; exact ⟨hpi', D.old p hpm⟩
                  · have := haft _ s3; omega
              · have hsame : ∀ x, m ≤ x → x ≤ i → (∀ k, m ≤ k → k < x → hs (k + 1) ≠ hs k → listed L (ord.getD k 0)) → H[p]? = (hs x)[p]? := by
                  intro x x1 x2 x3
                  have hte := D.take_eq M hpa x x1 (by omega) x3
                  have := M.le x x1 (by omega)
                  rw [← hte, List.getElem?_take, if_pos (by omega)]
                by_cases hex : ∃ k, m ≤ k ∧ k < i ∧ hs (k + 1) ≠ hs k ∧ ¬ listed L (ord.getD k 0)
                · obtain ⟨k, ⟨k1, k2, k3, k4⟩, kmin⟩ := first_of (fun k => m ≤ k ∧ k < i ∧ hs (k + 1) ≠ hs k ∧ ¬ listed L (ord.getD k 0)) hex
                  obtain ⟨s1, _, _⟩ | ⟨_, s3⟩ := hpair k (by omega) k3 (by omega) hl hpi (.inl k2) (hnotB fun hb => by have := hlt k (by omega) i hil hb; omega) (hnotB fun hb => k4 (hbef k hb))
                  · refine key k s1 fun q hq => ?_
                    rw [hpr] at hq; obtain rfl := Option.some.inj hq
                    refine ⟨hpi', hsame k k1 (by omega) fun k' q1 q2 q3 => ?_⟩
                    apply Classical.byContradiction
                    intro hq
                    exact kmin k' q2 ⟨q1, by omega, q3, hq⟩
                  · have := haft _ s3
                    have := M.le (k + 1) (x := m) (by omega) (by omega)
                    omega
                · refine key i hst fun q hq => ?_
                  rw [hpr] at hq; obtain rfl := Option.some.inj hq
                  refine ⟨hpi', hsame i him (Nat.le_refl _) fun k q1 q2 q3 => ?_⟩
                  apply Classical.byContradiction
                  intro hq
                  exact hex ⟨k, q1, q2, q3, hq⟩
            · -- it was made ahead of its turn
              subst hpk
              have hkl := hk.lens M hpa
              have hkN := hk.2.1
              have hki : k < i := by
                apply Classical.byContradiction
                intro hq
                have := M.le k (x := max m i) (by have := hk.1; omega) (by omega)
                omega
              have hEk := D.early k hk
              -- behind k: what changes there and makes no object of its own reads on
              have hsame : ∀ x, k + 1 ≤ x → x ≤ i → (∀ j, k + 1 ≤ j → j < x → hs (j + 1) ≠ hs j → ∃ gj, gs[j]? = some gj ∧ paE gj.op = true) → (hs x)[(hs k).length]? = (hs (k + 1))[(hs k).length]? := by
                intro x
                induction x with
                | zero => intro h; omega
                | succ x ihx =>
                  intro h1 h2 h3
                  by_cases e : k = x
                  · rw [e]
                  · have ihx := ihx (by omega) (by omega) (fun j j1 j2 => h3 j j1 (by omega))
                    by_cases hc : hs (x + 1) = hs x
                    · rw [hc]; exact ihx
                    · obtain ⟨ob, hob⟩ := M.one x (by omega) (h3 x (by omega) (Nat.lt_succ_self _) hc) hc
                      have := M.le x (x := k + 1) (by omega) (by omega)
                      rw [hob, List.getElem?_append_left (by omega)]
                      exact ihx
              by_cases hex : ∃ j, k + 1 ≤ j ∧ j < i ∧ hs (j + 1) ≠ hs j ∧ ¬ ∃ gj, gs[j]? = some gj ∧ paE gj.op = true
              · obtain ⟨j, ⟨j1, j2, j3, j4⟩, jmin⟩ := first_of (fun j => k + 1 ≤ j ∧ j < i ∧ hs (j + 1) ≠ hs j ∧ ¬ ∃ gj, gs[j]? = some gj ∧ paE gj.op = true) hex
                have jl : j < gs.length := by omega
                have hgj : gs[j]? = some gs[j] := List.getElem?_eq_getElem jl
                have jnl : ¬ listed L (ord.getD j 0) := fun hlj => j4 ⟨_, hgj, h2 j _ (by have := hk.1; omega) hgj hlj j3⟩
                obtain ⟨s1, _, _⟩ | ⟨_, s3⟩ := hpair j jl j3 (by omega) hl hpi (.inl j2) (hnotB fun hb => by have := hlt j jl i hil hb; omega) (hnotB fun hb => jnl (hbef j hb))
                · refine key j s1 fun q hq => ?_
                  rw [hpr] at hq; obtain rfl := Option.some.inj hq
                  refine ⟨hpi', hEk.trans (hsame j j1 (by omega) fun j' q1 q2 q3 => ?_).symm⟩
                  apply Classical.byContradiction
                  intro hq
                  exact jmin j' q2 ⟨q1, by omega, q3, hq⟩
                · have := haft _ s3
                  have := M.le (j + 1) (x := k + 1) (by omega) (by omega)
                  omega
              · refine key i hst fun q hq => ?_
                rw [hpr] at hq; obtain rfl := Option.some.inj hq
                refine ⟨hpi', hEk.trans (hsame i hki (Nat.le_refl _) fun j q1 q2 q3 => ?_).symm⟩
                apply Classical.byContradiction
                intro hq
                exact hex ⟨j, q1, q2, q3, hq⟩
        cases hch : changesE g.op with
        | false =>
          -- it changes nothing
          have heff : hs (i + 1) = hs i := step_nochange hch t1
          have hnc : isCall g.op = false := call_change hch
          have hst : stepE call (keepF (slotsG g) (frs i)) (H.take (hs (max m i)).length) g.op = some (val i, H.take (hs (max m i)).length) := by
            cases hl : looksE g.op with
            | false => exact (step_nolook hl t1).2 _
            | true => exact hrd hl hch
          have hHl := D.len
          have hmN := M.le gs.length (x := max m i) (by omega) (Nat.le_refl _)
          refine .inl (hrun (max m i) (max m i) _ (by omega) (Nat.le_refl _) (by omega) (fun q _ => by omega) (by rw [List.length_take]; omega) hst hF _ fun ρ' w' q0 q1 q2 q3 q4 => ?_)
          rw [List.take_append_drop] at q1
          refine hstay ρ' w' heff q1 q2 (fun q hq => q3 q (by have := M.le (max m i) (Nat.zero_le _) (by omega); omega)) (wfV_ext (Ext.refl _ _) (M.le (max m (i + 1)) (by omega) (by omega)) q4) ?_
          unfold stepE at hst
          rw [hnc] at hst
          exact op_nm hch (hd.nl i g hg) hFlive (fun p o hp ho => D.nmLive p o hp (take_get ho).2) hst
        | true =>
          have hlook := change_look hch
          by_cases heff : hs (i + 1) = hs i
          · obtain ⟨x, x1, x2, x3, x4, x5⟩ := hsrc hch heff
            have hxN : x ≤ gs.length := by omega
            have hte := D.take_eq M hpa x x1 hxN x3
            refine .inl (hrun x x (hs x) x1 (Nat.le_refl _) hxN (fun q _ => by omega) rfl (by rw [hte]; exact x4) x5 _ fun ρ' w' q0 q1 q2 q3 q4 => ?_)
            have etd := List.take_append_drop (hs x).length H
            rw [hte] at etd
            rw [etd] at q1
            refine hstay ρ' w' heff q1 q2 (fun q hq => q3 q (by have := M.le x (Nat.zero_le _) hxN; omega)) (wfV_ext (Ext.refl _ _) (M.le (max m (i + 1)) (by omega) (by omega)) q4) ?_
            exact nmV_mono (fun q hq => Pad.allLive M hpa x x1 hxN x3 q hq) (wfV_nm q4)
          · -- it changes the heap: all ahead of it is done
            have hahead : ∀ k, k < i → hs (k + 1) ≠ hs k → listed L (ord.getD k 0) := by
              intro k hk hne
              apply Classical.byContradiction
              intro hq
              have := hpair k (by omega) hne (by omega) hlook hpi (.inl hk) (hnotB fun hb => by have := hlt k (by omega) i hil hb; omega) (hnotB fun hb => hq (hbef k hb))
              rcases this with this | ⟨this, _⟩
              · exact heff (this.2.2 hch).1
              · rw [hch] at this; cases this
            have hmi : m ≤ i := by
              apply Classical.byContradiction
              intro hq
              exact hnl (h1 i (by omega) heff)
            have hmax : max m i = i := by omega
            rw [hmax] at hF
            have hte := D.take_eq M hpa i hmi (by omega) (fun k _ hk hne => hahead k hk hne)
            have hiN := M.le gs.length (x := i + 1) hil (Nat.le_refl _)
            have hmil := M.le i hmi (by omega)
            have hii := M.step i hil
            have hHl := D.len
            have hke : ∀ k, Early hs gs.length (fun k => listed L (ord.getD k 0)) m k → (k < i ∧ (hs k).length < (hs i).length) ∨ (i + 1 ≤ k ∧ (hs (i + 1)).length ≤ (hs k).length) := by
              intro k hk
              rcases Nat.lt_trichotomy k i with hlt' | rfl | hgt
              · have := hk.lens M hpa
                have := M.le i (x := k + 1) hlt' (by omega)
                exact .inl ⟨hlt', by omega⟩
              · exact absurd hk.2.2.1 hnl
              · exact .inr ⟨hgt, M.le k (x := i + 1) hgt (by have := hk.2.1; omega)⟩
            refine .inl (hrun i (i + 1) (hs (i + 1)) hmi (Nat.le_succ _) hil (fun q hq => ?_) rfl (by rw [hte]; exact t1) hF _ fun ρ' w' q0 q1 q2 q3 q4 => ?_)
            · rcases hq with hq | ⟨k, hk, rfl⟩
              · exact .inl (by omega)
              · rcases hke k hk with ⟨_, h⟩ | ⟨_, h⟩
                · exact .inl h
                · exact .inr h
            · have hEa : ∀ k, Early hs gs.length (fun k => listed (L.setIfInBounds (ord.getD i 0) true) (ord.getD k 0)) (i + 1) k ↔ i + 1 ≤ k ∧ Early hs gs.length (fun k => listed L (ord.getD k 0)) m k := by
                intro k
                constructor
                · rintro ⟨k1, k2, k3, k4⟩
                  rcases (hls k2).1 k3 with rfl | k3
                  · omega
                  · exact ⟨k1, by omega, k2, k3, k4⟩
                · rintro ⟨k1, k2, k3, k4, k5⟩
                  exact ⟨k1, k3, (hls k3).2 (.inr k4), k5⟩
              have hLa : ∀ q, Live hs gs.length (fun k => listed L (ord.getD k 0)) m q → Live hs gs.length (fun k => listed (L.setIfInBounds (ord.getD i 0) true) (ord.getD k 0)) (i + 1) q := by
                rintro q (h | ⟨k, hk, rfl⟩)
                · exact .inl (by omega)
                · rcases hke k hk with ⟨_, h⟩ | ⟨h, _⟩
                  · exact .inl (by omega)
                  · exact .inr ⟨k, (hEa k).2 ⟨h, hk⟩, rfl⟩
              have hH' : ∀ q, (hs (i + 1)).length ≤ q → (hs (i + 1) ++ H.drop (hs (i + 1)).length)[q]? = H[q]? := by
                intro q hq
                rw [List.getElem?_append_right hq, List.getElem?_drop]
                congr 1; omega
              have hob := fun q o (ho : (hs (i + 1))[q]? = some o) => q1.obj q o (by rw [List.getElem?_append_left (List.getElem?_eq_some_iff.1 ho).1]; exact ho)
              refine ih _ _ _ ⟨hsize', hclosed', (hsz _).1, (hsz _).2, ρ', i + 1, _, hil, .inr ⟨i, g, rfl, hg, hpi, heff⟩, fun k hk hne => ?_, fun k gk hk hgk hlk hne' => ?_, ?_, q1, fun q hq => ?_, ?_⟩ hfuel'
              · by_cases e : k = i
                · exact (hls (by omega)).2 (.inl e)
                · exact (hls (by omega)).2 (.inr (hahead k (by omega) hne))
              · rcases (hls (List.getElem?_eq_some_iff.1 hgk).1).1 hlk with rfl | hlk
                · omega
                · exact h2 k gk (by omega) hgk hlk hne'
              · refine ⟨?_, fun q hq => ?_, ?_, fun k hk => ?_, fun k o hk ho => ?_, fun q q1 q2 q3 => ?_⟩
                · rw [List.length_append, List.length_drop]; omega
                · rw [List.getElem?_append_left hq]
                · exact q0
                · obtain ⟨k1, k2⟩ := (hEa k).1 hk
                  rw [hH' _ (M.le k k1 (by have := k2.2.1; omega))]; exact D.early k k2
                · obtain ⟨k1, k2⟩ := (hEa k).1 hk
                  rw [hH' _ (M.le k k1 (by have := k2.2.1; omega))] at ho
                  obtain ⟨s1, s2⟩ := D.enm k o k2 ho
                  exact ⟨s1, nmO_mono hLa s2⟩
                · rw [hH' q q1]
                  refine D.dead q (by omega) q2 fun k hk => ?_
                  rcases hke k hk with ⟨_, h⟩ | ⟨h, _⟩
                  · omega
                  · exact q3 k ((hEa k).2 ⟨h, hk⟩)
              · exact (q3 q (by have := M.le i (Nat.zero_le _) (by omega); omega)).trans (hE q hq)
              · refine hput ρ' (i + 1) _ (by omega) hil (fun q hq => ⟨q2 q hq, hLa q hq⟩) (by rw [Nat.max_self]; exact q4) ?_
                exact nmV_mono (fun q hq => .inl hq) (wfV_nm q4)

theorem Rel.deads (R : Rel P w0 ρ h w) : ∀ d, Rel P w0 ρ (h ++ List.replicate d .dead) w
  | 0 => by rw [List.replicate_zero, List.append_nil]; exact R
  | d + 1 => by
    rw [List.replicate_succ', ← List.append_assoc]
    exact (R.deads d).add .dead trivial (fun h => by cases h) (fun h => by cases h)

theorem draw_ok {G : Base → Prop} (hG : Stays P G) (hgd : G w0) (hm : P.follows .mixedOrders = true) {call : CallE} (hcall : ∀ w0, G w0 → CallOK P w0 call) (hgrow : Grows call) {id : Nat} {ops : Array Oper} {ord : List Nat} {l0 : List EG} (hc : compL P N ops ops.toList = some l0) (hd : drawOk ops ord (permG ord l0) = true) {fr' : Fr} {h' : LH}
    (he : drawE call (permG ord l0) (pairsOf ops ord (permG ord l0)) fr h = some (fr', h'))
    (R : Rel P w0 ρ h w) (hF : FrR ρ h.length N fr a) (hQ : ∀ ρ' a' w', Rel P w0 ρ' h' w' → FrR ρ' h'.length N fr' a' → Ext h.length ρ ρ' → h.length ≤ h'.length → Q .normal a' w') : (Code.region id ops true).wp P Q a w := by
  have hd := drawOk_ok hc hd
  generalize permG ord l0 = gs at hd he
  unfold drawE at he
  split at he
  · rename_i tr fr1 h1 htr
    split at he
    · rename_i hp
      simp only [Option.some.injEq, Prod.mk.injEq] at he
      obtain ⟨rfl, rfl⟩ := he
      obtain ⟨frs, hs, val, want, T⟩ := trace_ok gs fr h tr fr1 h1 htr
      refine wp_region_any hm ?_
      have hno : ∀ j, ¬ listed (Array.replicate ops.size false) j := by
        intro j hj
        unfold listed at hj
        rw [Array.getD_eq_getD_getElem?, Array.getElem?_replicate] at hj
        split at hj <;> cases hj
      have R0 : Rel P w0 ρ h (w.drewN 1) := R.drewN 1
      have hgr : h.length ≤ (hs gs.length).length := by rw [T.hN]; exact trace_grow hgrow _ _ _ _ _ _ htr
      refine draw_inv hG hgd hcall hgrow hd T hp rfl (ρ0 := ρ) hQ ops.size _ a _ ⟨by simp, fun x y hk => absurd hk (hno x), hF.size, hF.defers, ?_⟩ ?_
      · refine ⟨ρ, 0, h ++ List.replicate ((hs gs.length).length - h.length) .dead, Nat.zero_le _, .inl rfl, fun k hk => by omega, fun k g _ _ hk => absurd hk (hno _), ?_, R0.deads _, Ext.refl _ _, ?_⟩
        · refine ⟨by rw [List.length_append, List.length_replicate]; omega, fun q hq => ?_, fun q o ho => ?_, fun k hk => absurd hk.2.2.1 (hno _), fun k o hk => absurd hk.2.2.1 (hno _), fun q q1 q2 q3 => ?_⟩
          · rw [T.h0] at hq ⊢; rw [List.getElem?_append_left hq]
          · rw [T.h0] at ho ⊢; exact (R.obj q o ho).nm
          · rw [T.h0] at q1
            rw [List.getElem?_append_right q1, List.getElem?_replicate, if_pos (by omega)]
        · rintro t v p (⟨i, g, q1, _⟩ | ⟨_, q2, rfl⟩)
          · exact absurd q1 (hno _)
          · obtain ⟨r1, r2, r3⟩ := hF.get t v q2
            refine ⟨r1, r2, by rw [Nat.max_self, T.h0]; exact r3, nmV_mono (fun q hq => .inl (by rw [T.h0]; exact hq)) (wfV_nm r3), Nat.zero_le _⟩
      · have := List.length_filter_le (fun i => !(Array.replicate ops.size false).getD i false) (List.range gs.length)
        rw [List.length_range] at this
        have := hd.size
        omega
    · cases he
  · cases he

end
end Go.Proofs.YtiljgimcipdadaaGreatDoor.Ev
