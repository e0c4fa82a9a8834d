/- All the operations together. -/
import Derived.Test.YtiljgimcipdadaaGreatDoorEvMaps
import Derived.Laws.Cells
set_option linter.unusedVariables false
set_option linter.unusedSimpArgs false
namespace Go.Proofs.YtiljgimcipdadaaGreatDoor.Ev
open Go Go.RowKit

variable {P : Program} {w0 : Base}
section
variable {ρ : Nat → Ph} {h : LH} {w : World} {N : Nat} {fr : Fr} {a : Act}

theorem clr_ok (R : Rel P w0 ρ h w) (hF : FrR ρ h.length N fr a) {t e ty : TypeId} {i : TypeInfo} {z : List SV} {ts : Array TypeId} (hts : ts[0]? = some t) (ht : P.underlying t = some (.slice e)) (hi : P.info? e = some i) (hz : zeroOf P e = some z) (h0 : 0 < i.size) (hzl : z.length = i.size)
    {x : Operand} {y : OD} (hx : compOD x = some y) {v : FV} {h' : LH} (he : opE fr h (.clr e z y) = some (v, h')) :
    Res P w0 ρ h w (do pure (Next.value (← Builtin.clear_ ts ty #[a.eval x]))) v h' := by
  simp only [opE] at he
  split at he
  · rename_i hs
    simp only [Option.some.injEq, Prod.mk.injEq] at he
    obtain ⟨rfl, rfl⟩ := he
    obtain ⟨e1, e2⟩ := ods_sound hF hx hs
    refine Res.val R ?_ (fun v hv => by cases hv)
    rw [e1]
    simp [Builtin.clear_, hts, run_underlying ht, c0, cv]
  · rename_i j p o hs
    simp only [Option.some.injEq, Prod.mk.injEq] at he
    obtain ⟨rfl, rfl⟩ := he
    obtain ⟨e1, e2⟩ := ods_sound hF hx hs
    refine Res.val R ?_ (fun v hv => by cases hv)
    rw [e1]
    simp [Builtin.clear_, hts, run_underlying ht, c0, cv]
  · rename_i j p o n hn hs
    obtain ⟨e1, e2⟩ := ods_sound hF hx hs
    split at he
    · rename_i t' vs hob
      split at he
      · rename_i htt
        subst htt
        split at he
        · rename_i hle
          simp only [Option.some.injEq, Prod.mk.injEq] at he
          obtain ⟨rfl, rfl⟩ := he
          obtain ⟨i', u, hi', hu, hcell, hwf⟩ := zeroOf_ok hz ρ
          rw [hi] at hi'
          obtain rfl := Option.some.inj hi'
          obtain ⟨b1, b2, b3, b4, b5, b6, b7⟩ := R.obj j _ hob
          rw [cellsOf_info hi] at b3
          simp only [wf] at e2
          have hn0 : 0 < n := Nat.pos_of_ne_zero (fun e => by subst e; exact hn rfl)
          have hle' := hle
          rw [Nat.add_mul] at hle'
          have hrl : o * z.length + (rep n z).length ≤ vs.length := by rw [rep_length]; omega
          have hwz : ∀ q ∈ rep n z, wf ρ h.length q := rep_wf (hwf _)
          have hst := storeCells_ok R hob (o := o * z.length) (l := rep n z) hrl hwz
          refine ⟨_, ρ, _, run_v ?_, .inl rfl, R.store hob (o := o * z.length) (l := rep n z) hrl hwz, Ext.refl _ _, by rw [List.length_set]; exact Nat.le_refl _, fun v hv => by cases hv⟩
          rw [e1]
          have hza := zeros_array (ρ := ρ) (z := z) (by omega) n
          have hzc : (Builtin.zeroCells u.cells n).toList = (rep n z).map (c0 ρ) := by
            rw [show Builtin.zeroCells u.cells n = ((rep n z).map (c0 ρ)).toArray from ?_]
            rw [hcell]
            rw [← hza]
            simp [Builtin.zeroCells]
          have hadr : adr (ρ j) p o = ⟨(ρ j).blk, (ρ j).base + o * z.length, none⟩ := by rw [adr_room (by omega), b3, hzl]
          have hc : c0 ρ (.sl j p o n) = .slice (some (adr (ρ j) p o)) n ((ρ j).cap - o) := rfl
          rw [hc, hadr]
          obtain ⟨n', rfl⟩ : ∃ n', n = n' + 1 := ⟨n - 1, by omega⟩
          simp only [Builtin.clear_, hts, List.getElem?_toArray, List.getElem?_cons_zero, Sem.run_bind, run_underlying ht, Result.andThen_ok, run_zeroValue_ok hi hu, hzc, hst, Sem.run_pure]
          rfl
        · cases he
      · cases he
    · cases he
  · cases he

theorem odSL_ok (hF : FrR ρ h.length N fr a) : ∀ {l : List Operand} {ys : List OD} {vs : List SV}, compODs l = some ys → odSL fr ys = some vs → l.map a.eval = vs.map (c0 ρ)
  | [], ys, vs, hc, he => by
    simp only [compODs, Option.some.injEq] at hc
    subst hc
    simp only [odSL, Option.some.injEq] at he
    subst he; rfl
  | x :: r, ys, vs, hc, he => by
    simp only [compODs] at hc
    split at hc
    · rename_i y hx
      obtain ⟨ys', hy, rfl⟩ := Option.map_eq_some_iff.1 hc
      simp only [odSL] at he
      split at he
      · rename_i v hv
        obtain ⟨vs', hvs, rfl⟩ := Option.map_eq_some_iff.1 he
        rw [List.map_cons, List.map_cons, (ods_sound hF hx hv).1, odSL_ok hF hy hvs]
      · cases he
    · cases hc

theorem minE_run : ∀ (l : List SV) (k : IntKind) (n : Int) (r : SV), minE k n l = some r → ((l.map (c0 ρ)).foldlM Builtin.min2 (.int k n)).run P w = .ok (c0 ρ r) w ∧ ∃ m, r = .int k m
  | [], k, n, r, he => by
    simp only [minE, Option.some.injEq] at he
    subst he; exact ⟨rfl, _, rfl⟩
  | v :: l, k, n, r, he => by
    cases v <;> simp only [minE] at he <;> first
      | (cases he; done)
      | skip
    have := minE_run l k _ r he
    simp only [List.map_cons, List.foldlM_cons, Sem.run_bind, c0, Builtin.min2, Sem.run_pure, Result.andThen_ok]
    exact this

theorem maxE_run : ∀ (l : List SV) (k : IntKind) (n : Int) (r : SV), maxE k n l = some r → ((l.map (c0 ρ)).foldlM Builtin.max2 (.int k n)).run P w = .ok (c0 ρ r) w ∧ ∃ m, r = .int k m
  | [], k, n, r, he => by
    simp only [maxE, Option.some.injEq] at he
    subst he; exact ⟨rfl, _, rfl⟩
  | v :: l, k, n, r, he => by
    cases v <;> simp only [maxE] at he <;> first
      | (cases he; done)
      | skip
    have := maxE_run l k _ r he
    simp only [List.map_cons, List.foldlM_cons, Sem.run_bind, c0, Builtin.max2, Sem.run_pure, Result.andThen_ok]
    exact this

theorem bytesOf_ok : ∀ {l : List SV} {bs : List UInt8}, bytesOf l = some bs → ∃ ns : List Int, l = ns.map (SV.int .u8) ∧ bs = ns.map (fun n => UInt8.ofNat n.toNat)
  | [], bs, he => by
    simp only [bytesOf, Option.some.injEq] at he
    exact ⟨[], rfl, he.symm⟩
  | v :: l, bs, he => by
    unfold bytesOf at he
    split at he
    · rename_i h; cases h
    · rename_i n r hq
      obtain ⟨rfl, rfl⟩ := List.cons.inj hq
      obtain ⟨bs', hb, rfl⟩ := Option.map_eq_some_iff.1 he
      obtain ⟨ns, rfl, rfl⟩ := bytesOf_ok hb
      exact ⟨n :: ns, rfl, rfl⟩
    · cases he

theorem foldl_push : ∀ (ns : List Int) (s : ByteArray), ns.foldl (fun r n => r.push (UInt8.ofNat n.toNat)) s = ⟨s.data ++ (ns.map (fun n => UInt8.ofNat n.toNat)).toArray⟩
  | [], s => by simp
  | n :: ns, s => by
    rw [List.foldl_cons, foldl_push ns]
    simp [ByteArray.push]

theorem b2s_ok (R : Rel P w0 ρ h w) (hF : FrR ρ h.length N fr a) {src dst e : TypeId} {i : TypeInfo} (ht : P.underlying src = some (.slice e)) (hd : P.underlying dst = some .string) (hu8 : P.underlying e = some (.int .u8)) (hi : P.info? e = some i) (h1 : i.size = 1)
    {x : Operand} {y : OD} (hx : compOD x = some y) {v : FV} {h' : LH} (he : opE fr h (.b2s e y) = some (v, h')) :
    Res P w0 ρ h w (do pure (Next.value (← convert src dst (a.eval x)))) v h' := by
  simp only [opE] at he
  split at he
  · rename_i u hu
    split at he
    · rename_i l hl
      simp only [Option.some.injEq, Prod.mk.injEq] at he
      obtain ⟨rfl, rfl⟩ := he
      obtain ⟨e1, e2⟩ := ods_sound hF hx hu
      obtain ⟨cs, hcs, hb⟩ := Option.bind_eq_some_iff.1 hl
      obtain ⟨ns, rfl, rfl⟩ := bytesOf_ok hb
      refine Res.val R ?_ trivial
      rw [e1]
      have hload : ∀ (p : Addr) (n : Nat), n = ns.length → (∀ k c, ((ns.map (SV.int .u8)).map (c0 ρ))[k]? = some c → w.cell? (p.add k) = some c) → (loadCells p n).run P w = .ok (ns.map (Value.int .u8)).toArray w := by
        intro p n hn hc
        have := run_loadCells_list (P := P) (w := w) p (ns.map (Value.int .u8)) (fun j v hj => hc j v (by rw [List.map_map]; exact hj))
        rw [List.length_map] at this
        rw [hn]; exact this
      have fin : ∀ (p : Addr) (n cap : Nat), c0 ρ u = .slice (some p) n cap → n = ns.length → (∀ k c, ((ns.map (SV.int .u8)).map (c0 ρ))[k]? = some c → w.cell? (p.add k) = some c) →
          (convert src dst (c0 ρ u)).run P w = .ok (.string ⟨(ns.map (fun n => UInt8.ofNat n.toNat)).toArray⟩) w := by
        intro p n cap hc hn hk
        rw [hc]
        simp only [convert, Sem.run_bind, run_underlying ht, run_underlying hd, run_underlying hu8, Result.andThen_ok]
        rw [run_bytesToString w p n cap ns (hload p n hn hk), foldl_push]
        simp
      cases u <;> simp only [elems, Option.some.injEq] at hcs <;> first
        | (cases hcs; done)
        | skip
      case nils =>
        have : ns = [] := by simpa using hcs.symm
        subst this
        simp [convert, run_underlying ht, run_underlying hd, run_underlying hu8, c0, Conv.bytesToString, cv, ByteArray.empty, ByteArray.emptyWithCapacity]
        rfl
      case sl0 j p o =>
        have : ns = [] := by simpa using hcs.symm
        subst this
        exact fin _ 0 0 rfl rfl (by simp)
      case sl j p o n =>
        by_cases h0 : n = 0
        · subst h0
          simp only [elems, Option.some.injEq] at hcs
          have : ns = [] := by simpa using hcs.symm
          subst this
          exact fin _ 0 _ rfl rfl (by simp)
        · obtain ⟨n', rfl⟩ : ∃ n', n = n' + 1 := ⟨n - 1, by omega⟩
          simp only [elems] at hcs
          split at hcs
          · rename_i t' vs hc
            split at hcs
            · rename_i htt
              split at hcs
              · rename_i hle
                have hq := Option.some.inj hcs
                subst htt
                obtain ⟨q1, q2, q3, q4⟩ := R.cells hc
                rw [cellsOf_info hi, h1] at q2
                simp only [wf] at e2
                refine fin _ (n' + 1) _ rfl ?_ ?_
                · have := congrArg List.length hq
                  rw [List.length_map, List.length_take, List.length_drop] at this
                  rw [Nat.add_mul] at hle
                  omega
                · intro k c hk
                  rw [adr_room (by omega), Addr.add_mid, q2]
                  rw [← hq, ← map_part] at hk
                  exact rangeAt_part q1 (o * 1) _ k c hk
              · cases hcs
            · cases hcs
          · cases hcs
    · cases he
  · cases he

theorem app_ok (R : Rel P w0 ρ h w) (hF : FrR ρ h.length N fr a) {t tx ty e : TypeId} {i : TypeInfo} {z : Value} {ts : Array TypeId} (hsz : ts = #[t, tx]) (ht : P.underlying t = some (.slice e)) (hk : P.underlying tx = some (.slice e)) (hi : P.info? e = some i) (hz : i.zero = some z) (hzs : z.cells.size = i.size) (h0 : 0 < i.size) (hy : 0 < i.bytes)
    {x x' : Operand} {y y' : OD} (hx : compOD x = some y) (hx' : compOD x' = some y') {v : FV} {h' : LH} (he : opE fr h (.app e i.size i.bytes y y') = some (v, h')) :
    Res P w0 ρ h w (do pure (Next.value (← Builtin.append_ ts ty #[a.eval x, a.eval x']))) v h' := by
  simp only [opE] at he
  split at he
  · rename_i u u' hu hu'
    obtain ⟨e1, e2⟩ := ods_sound hF hx hu
    obtain ⟨e3, e4⟩ := ods_sound hF hx' hu'
    split at he
    · rename_i n new hn hnew
      subst hsz
      obtain ⟨hs, hwn, hln⟩ := elems_src (tx := tx) R hi hk e4 hn hnew
      obtain ⟨ρ', w', q1, q2, q3, q4, q5⟩ := appE_ok (ty := ty) R ht hi hz hzs h0 hy e2 hs hwn hln he
      rw [e1, e3]
      exact ⟨_, ρ', w', run_v q1, .inl rfl, q2, q3, q4, q5⟩
    · cases he
  · cases he

theorem apps_ok (R : Rel P w0 ρ h w) (hF : FrR ρ h.length N fr a) {t tx ty e : TypeId} {i : TypeInfo} {z : Value} {ts : Array TypeId} (hsz : ts = #[t, tx]) (ht : P.underlying t = some (.slice e)) (hk : P.underlying tx = some .string) (hi : P.info? e = some i) (hz : i.zero = some z) (hzs : z.cells.size = i.size) (h1 : i.size = 1) (hy : 0 < i.bytes)
    {x x' : Operand} {y y' : OD} (hx : compOD x = some y) (hx' : compOD x' = some y') {v : FV} {h' : LH} (he : opE fr h (.apps e i.bytes y y') = some (v, h')) :
    Res P w0 ρ h w (do pure (Next.value (← Builtin.append_ ts ty #[a.eval x, a.eval x']))) v h' := by
  simp only [opE] at he
  split at he
  · rename_i u s hu hu'
    obtain ⟨e1, e2⟩ := ods_sound hF hx hu
    obtain ⟨e3, e4⟩ := ods_sound hF hx' hu'
    subst hsz
    obtain ⟨hs, hwn, hln⟩ := str_src (P := P) (w := w) (ρ := ρ) hk s h.length
    rw [← h1] at hs hln he
    obtain ⟨ρ', w', q1, q2, q3, q4, q5⟩ := appE_ok (ty := ty) R ht hi hz hzs (by omega) hy e2 hs hwn hln he
    rw [e1, e3]
    exact ⟨_, ρ', w', run_v q1, .inl rfl, q2, q3, q4, q5⟩
  · cases he

theorem callE_none_op {f : Nat} {args : List OD} : opE fr h (.call f args) = none := rfl

theorem anySome {α : Type} {o : Option α} {p : α → Bool} (h : o.any p = true) : ∃ x, o = some x ∧ p x = true := by
  cases o with
  | none => cases h
  | some x => exact ⟨x, rfl, h⟩

theorem builtin_ok (R : Rel P w0 ρ h w) (hF : FrR ρ h.length N fr a) {b : Builtin} {ts : Array TypeId} {ty : TypeId} {cs : Array Bool} {args : Array Operand} {ys : List OD} {e : EO} (hx : compODs args.toList = some ys) (hc : compBuiltin P b ts ys = some e) {v : FV} {h' : LH} (he : opE fr h e = some (v, h')) :
    Res P w0 ρ h w (builtin b ts ty cs (args.map a.eval)) v h' := by
  unfold compBuiltin at hc
  split at hc
  · -- len
    rename_i y
    obtain ⟨x, rfl, hxy⟩ := one hx
    rw [show (#[x] : Array Operand).map a.eval = #[a.eval x] by simp]
    split at hc
    · rename_i hu
      obtain rfl := Option.some.inj hc
      obtain ⟨t, ht, hu⟩ := Option.bind_eq_some_iff.1 hu
      exact slen_ok R hF ht hu hxy he
    · rename_i e' hu
      obtain rfl := Option.some.inj hc
      obtain ⟨t, ht, hu⟩ := Option.bind_eq_some_iff.1 hu
      exact len_ok R hF ht hu hxy he
    · rename_i k' e' hu
      obtain rfl := Option.some.inj hc
      obtain ⟨t, ht, hu⟩ := Option.bind_eq_some_iff.1 hu
      exact mlen_ok R hF ht hu hxy he
    · cases hc
  · -- append
    rename_i y y'
    obtain ⟨x, x', rfl, hxy, hxy'⟩ := two hx
    rw [show (#[x, x'] : Array Operand).map a.eval = #[a.eval x, a.eval x'] by simp]
    split at hc
    · rename_i e1 e2 h1 h2
      obtain ⟨t, ht, hu⟩ := Option.bind_eq_some_iff.1 h1
      obtain ⟨t', ht', hu'⟩ := Option.bind_eq_some_iff.1 h2
      split at hc
      · rename_i heq
        subst heq
        obtain ⟨i, hi, hc⟩ := Option.bind_eq_some_iff.1 hc
        split at hc
        · rename_i hh
          obtain rfl := Option.some.inj hc
          obtain ⟨z, hz, hzs⟩ := anySome hh.2.2.1
          exact app_ok R hF (sizeTwo hh.2.2.2 ht ht') (elemOfS_ok hu) hu' hi hz (by simpa using hzs) hh.1 hh.2.1 hxy hxy' he
        · cases hc
      · cases hc
    · rename_i e1 h1 h2
      obtain ⟨t, ht, hu⟩ := Option.bind_eq_some_iff.1 h1
      obtain ⟨t', ht', hu'⟩ := Option.bind_eq_some_iff.1 h2
      obtain ⟨i, hi, hc⟩ := Option.bind_eq_some_iff.1 hc
      split at hc
      · rename_i hh
        obtain rfl := Option.some.inj hc
        obtain ⟨z, hz, hzs⟩ := anySome hh.2.2.1
        exact apps_ok R hF (sizeTwo hh.2.2.2 ht ht') (elemOfS_ok hu) hu' hi hz (by simpa using hzs) hh.1 hh.2.1 hxy hxy' he
      · cases hc
    · cases hc
  · -- copy
    rename_i y y'
    obtain ⟨x, x', rfl, hxy, hxy'⟩ := two hx
    rw [show (#[x, x'] : Array Operand).map a.eval = #[a.eval x, a.eval x'] by simp]
    split at hc
    · rename_i e1 e2 h1 h2
      obtain ⟨t, ht, hu⟩ := Option.bind_eq_some_iff.1 h1
      obtain ⟨t', ht', hu'⟩ := Option.bind_eq_some_iff.1 h2
      split at hc
      · obtain ⟨i, hi, hc⟩ := Option.bind_eq_some_iff.1 hc
        split at hc
        · obtain rfl := Option.some.inj hc
          exact copy_ok R hF ht ht' (elemOfS_ok hu) hu' hi hxy hxy' he
        · cases hc
      · cases hc
    · cases hc
  · -- clear
    rename_i y
    obtain ⟨x, rfl, hxy⟩ := one hx
    rw [show (#[x] : Array Operand).map a.eval = #[a.eval x] by simp]
    split at hc
    · rename_i e1 h1
      obtain ⟨t, ht, hu⟩ := Option.bind_eq_some_iff.1 h1
      obtain ⟨i, hi, hc⟩ := Option.bind_eq_some_iff.1 hc
      obtain ⟨z, hz, hc⟩ := Option.bind_eq_some_iff.1 hc
      split at hc
      · rename_i h0
        split at hc
        · rename_i hzl
          obtain rfl := Option.some.inj hc
          exact clr_ok R hF ht (elemOfS_ok hu) hi hz h0 hzl hxy he
        · cases hc
      · cases hc
    · cases hc
  · -- min
    rename_i y r
    obtain ⟨x, l, hl, hxy, hr⟩ := more hx
    obtain rfl := Option.some.inj hc
    simp only [opE] at he
    split at he
    · rename_i k n vs hv hvs
      obtain ⟨u, hu, hq⟩ := Option.map_eq_some_iff.1 he
      obtain ⟨rfl, rfl⟩ := Prod.mk.inj hq
      obtain ⟨q1, m, rfl⟩ := minE_run (P := P) (w := w) (ρ := ρ) vs k n u hu
      refine Res.val R ?_ trivial
      simp only [Builtin.min_, Array.toList_map, hl, List.map_cons, (ods_sound hF hxy hv).1, odSL_ok hF hr hvs]
      exact q1
    · cases he
  · -- max
    rename_i y r
    obtain ⟨x, l, hl, hxy, hr⟩ := more hx
    obtain rfl := Option.some.inj hc
    simp only [opE] at he
    split at he
    · rename_i k n vs hv hvs
      obtain ⟨u, hu, hq⟩ := Option.map_eq_some_iff.1 he
      obtain ⟨rfl, rfl⟩ := Prod.mk.inj hq
      obtain ⟨q1, m, rfl⟩ := maxE_run (P := P) (w := w) (ρ := ρ) vs k n u hu
      refine Res.val R ?_ trivial
      simp only [Builtin.max_, Array.toList_map, hl, List.map_cons, (ods_sound hF hxy hv).1, odSL_ok hF hr hvs]
      exact q1
    · cases he
  · -- real
    rename_i y
    obtain ⟨x, rfl, hxy⟩ := one hx
    rw [show (#[x] : Array Operand).map a.eval = #[a.eval x] by simp]
    obtain rfl := Option.some.inj hc
    simp only [opE] at he
    split at he
    · rename_i k m n hv
      simp only [Option.some.injEq, Prod.mk.injEq] at he
      obtain ⟨rfl, rfl⟩ := he
      refine Res.val R ?_ trivial
      rw [(ods_sound hF hxy hv).1]; rfl
    · cases he
  · -- imag
    rename_i y
    obtain ⟨x, rfl, hxy⟩ := one hx
    rw [show (#[x] : Array Operand).map a.eval = #[a.eval x] by simp]
    obtain rfl := Option.some.inj hc
    simp only [opE] at he
    split at he
    · rename_i k m n hv
      simp only [Option.some.injEq, Prod.mk.injEq] at he
      obtain ⟨rfl, rfl⟩ := he
      refine Res.val R ?_ trivial
      rw [(ods_sound hF hxy hv).1]; rfl
    · cases he
  · -- complex
    rename_i y y'
    obtain ⟨x, x', rfl, hxy, hxy'⟩ := two hx
    rw [show (#[x, x'] : Array Operand).map a.eval = #[a.eval x, a.eval x'] by simp]
    obtain rfl := Option.some.inj hc
    simp only [opE] at he
    split at he
    · rename_i m n hv hv'
      simp only [Option.some.injEq, Prod.mk.injEq] at he
      obtain ⟨rfl, rfl⟩ := he
      refine Res.val R ?_ trivial
      rw [(ods_sound hF hxy hv).1, (ods_sound hF hxy' hv').1]; rfl
    · cases he
  · cases hc
where
  more : ∀ {args : Array Operand} {y : OD} {r : List OD}, compODs args.toList = some (y :: r) → ∃ x l, args.toList = x :: l ∧ compOD x = some y ∧ compODs l = some r := by
    intro args y r h
    cases hq : args.toList with
    | nil => rw [hq] at h; simp [compODs] at h
    | cons x l =>
      rw [hq] at h
      simp only [compODs] at h
      split at h
      · rename_i y' hy
        obtain ⟨ys, h1, h2⟩ := Option.map_eq_some_iff.1 h
        obtain ⟨rfl, rfl⟩ := List.cons.inj h2
        exact ⟨x, l, rfl, hy, h1⟩
      · cases h
  one : ∀ {args : Array Operand} {y : OD}, compODs args.toList = some [y] → ∃ x, args = #[x] ∧ compOD x = some y := by
    intro args y h
    obtain ⟨x, l, hl, h1, h2⟩ := more h
    cases l with
    | nil => exact ⟨x, Array.ext' (by simpa using hl), h1⟩
    | cons q r =>
      simp only [compODs] at h2
      split at h2
      · obtain ⟨_, _, h3⟩ := Option.map_eq_some_iff.1 h2
        cases h3
      · cases h2
  two : ∀ {args : Array Operand} {y y' : OD}, compODs args.toList = some [y, y'] → ∃ x x', args = #[x, x'] ∧ compOD x = some y ∧ compOD x' = some y' := by
    intro args y y' h
    obtain ⟨x, l, hl, h1, h2⟩ := more h
    obtain ⟨x', rfl, h3⟩ := one (args := l.toArray) (by simpa using h2) |> fun ⟨x', h4, h5⟩ => (⟨x', by simpa using congrArg Array.toList h4, h5⟩ : ∃ x', l = [x'] ∧ compOD x' = some y')
    exact ⟨x, x', Array.ext' (by simpa using hl), h1, h3⟩
  sizeTwo : ∀ {ts : Array TypeId} {t t' : TypeId}, ts.size = 2 → ts[0]? = some t → ts[1]? = some t' → ts = #[t, t'] := by
    intro ts t t' h h0 h1
    apply Array.ext
    · simp [h]
    · intro i hi _
      have : i = 0 ∨ i = 1 := by omega
      rcases this with rfl | rfl
      · rw [Array.getElem?_eq_getElem hi] at h0
        simpa using h0
      · rw [Array.getElem?_eq_getElem hi] at h1
        simpa using h1

end
end Go.Proofs.YtiljgimcipdadaaGreatDoor.Ev
