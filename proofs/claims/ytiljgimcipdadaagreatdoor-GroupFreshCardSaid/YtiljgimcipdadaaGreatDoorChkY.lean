/- group.Check by what it comes to. -/
import Derived.Test.YtiljgimcipdadaaGreatDoorChkX
set_option linter.unusedSimpArgs false
set_option linter.unusedVariables false
namespace Go.Proofs.YtiljgimcipdadaaGreatDoor.Ev.CK
open Go Go.RowKit

theorem cok {w0 : Base} {ρ : Nat → Ph} {h : LH} {w : World} {a : Act} {fr : Fr} (c : Code) (hs : List (List Nat)) (ec : EC) (hs' : List (List Nat)) (hc : compC Tryz.prog 55 c hs = some (ec, hs')) (hn : noLoop ec = true) {Φ : Ex → Fr → LH → Prop} (wk : WPk C ec fr h Φ) (R : Rel Tryz.prog w0 ρ h w) (F : FrR ρ h.length 55 fr a) {Q : Exit → Act → World → Prop}
    (hQ : ∀ x fr' h' ρ' a' w', Φ x fr' h' → Rel Tryz.prog w0 ρ' h' w' → FrR ρ' h'.length 55 fr' a' → Ext h.length ρ ρ' → h.length ≤ h'.length → Q (exOf x) a' w') : c.wp Tryz.prog Q a w := by
  obtain ⟨x, fr', h', e, r⟩ := code_of hn wk
  exact code_ok stays1 trivial mixedK callK (callX_grow C) 0 c hs ec hs' hc fr h x fr' h' e ρ a w R F Q fun ρ' a' w' q1 q2 q3 q4 => hQ x fr' h' ρ' a' w' r q1 q2 q3 q4

def ec0 : EC := .ops [⟨some 1, .new 77 12 (.t 0), none⟩, ⟨some 2, .mov (.c (.s (.int .i64 0))), none⟩] [1]
def ec1 : EC := .ops [⟨some 9, .fad 0 (.t 1), none⟩, ⟨some 10, .load false 1 (.t 9), none⟩, ⟨some 11, .call 72 [.t 10], none⟩, ⟨some 3, .mov (.t 11), none⟩] [1, 3]
def ec2 : EC := .seq (.ops [⟨some 12, .mov (.t 3), none⟩, ⟨some 13, .bin .eql (.t 12) (.c (.s (.str ⟨#[63]⟩))), none⟩] [1, 3, 13]) (.cond (.t 13) (.seq (.ops [⟨some 2, .mov (.c (.s (.int .i64 1))), none⟩] [2]) (.ret [2])) .skip)
def ec3 : EC := .seq (.ops [⟨some 2, .mov (.c (.s (.int .i64 0))), none⟩] [2]) (.ret [2])
def g4 : List EG := [⟨some 14, .load true 12 (.t 1), none⟩, ⟨some 15, .call 73 [.t 14], none⟩]
def g10 : List EG := [⟨some 39, .load true 12 (.t 1), none⟩, ⟨some 40, .call 76 [.t 39], none⟩]

theorem beq_fields (k : Int) : ((fieldsB k).toList == (⟨#[63]⟩ : ByteArray).toList) = (fieldsL k == [63]) := by
  rw [ByteArray.toList_eq, ByteArray.toList_eq]; rfl

/-- The iterator's block is no object's. -/
theorem free_of {w0 : Base} {ρ : Nat → Ph} {h : LH} {w : World} (R : Rel Tryz.prog w0 ρ h w) (p : Ph) : ∀ i o, (h ++ [LO.dead])[i]? = some o → o.holds = true → (upd ρ h.length p i).blk ≠ w.heap.size := by
  intro i o hi hh
  rcases Nat.lt_or_ge i h.length with hlt | hge
  · rw [List.getElem?_append_left hlt] at hi
    rw [upd_ext ρ h.length p i hlt]
    have := R.obj i o hi
    have hb : (ρ i).blk < w.heap.size := by cases o <;> simp [LO.holds] at hh <;> exact this.2.1
    omega
  · have hlt := obj_lt hi
    rw [List.length_append, List.length_singleton] at hlt
    obtain rfl : i = h.length := by omega
    rw [List.getElem?_append_right (Nat.le_refl _), Nat.sub_self] at hi
    obtain rfl := Option.some.inj hi
    cases hh

/-- A region that makes a map and begins to go through it. -/
theorem range_reg {w0 : Base} {ρ : Nat → Ph} {h h2 : LH} {w : World} {a : Act} {fr fr2 : Fr} {ops : Array Oper} {l1 : List Oper} {o : Oper} {gs : List EG} {im tm it : Nat} {es : List (SV × SV)} {t k e : TypeId} (hsp : ops.toList = l1 ++ [o]) (hc : compL Tryz.prog 55 ops l1 = some gs) (he : opsE (callX C) gs fr h = some (fr2, h2))
    (him : h2[im]? = some (.map es)) (htm : fget fr2 tm = some (.s (.mp im))) (ho : o.op = .range t (.tmp tm)) (hd : o.dst = some it) (hit : it < 55) (hg : o.guard = none) (ht : Tryz.prog.underlying t = some (.map k e)) (R : Rel Tryz.prog w0 ρ h w) (F : FrR ρ h.length 55 fr a) {Q : Exit → Act → World → Prop} {id : Nat}
    (hQ : ∀ ρ' a' w' r, Rel Tryz.prog w0 ρ' (h2 ++ [.dead]) w' → FrR ρ' (h2 ++ [LO.dead]).length 55 ((it, some (.s (.ptr h2.length 0))) :: fr2) a' → Ext h.length ρ ρ' → w0.B ≤ r → ¬ w0.F r → (ρ' h2.length).blk = r → (ρ' h2.length).base = 0 → w'.heap[r]? = some (.mapIter (some (ρ' im).blk) es.length #[] es.length) →
      (∀ i o, (h2 ++ [LO.dead])[i]? = some o → o.holds = true → (ρ' i).blk ≠ r) → Q .normal a' w') : (Code.region id ops false).wp Tryz.prog Q a w := by
  refine wp_region_list ?_
  rw [hsp]
  refine ops_ok2 (callK w0 trivial) [o] l1 gs fr h fr2 h2 ρ a w hc he R F (fun ρ1 a1 w1 R1 F1 E1 L1 => ?_)
  unfold wpList
  have hw : Region.wanted o (yielded ops a1.tmps) = true := by unfold Region.wanted; rw [hg]
  rw [hw, if_pos rfl]
  refine .inl ?_
  unfold Oper.wp
  obtain ⟨w', hr, R2, hi⟩ := R1.range him ht
  have hev : a1.eval (.tmp tm) = c0 ρ1 (.mp im) := by
    obtain ⟨_, q, _⟩ := F1.get tm _ htm
    exact q
  have hex : (execOp a1.eval o).run Tryz.prog w1 = .ok (.value (.pointer (some ⟨w1.heap.size, 0, none⟩))) w' := by
    unfold execOp
    rw [ho]
    simp only
    rw [hev]
    exact run_v hr
  rw [hex, Oper.upon_value, hd]
  have hix : im < h2.length := obj_lt him
  have ep : (Value.pointer (some ⟨w1.heap.size, 0, none⟩)) = cv (upd ρ1 h2.length ⟨w1.heap.size, 0, 1, 1, undef⟩) (.s (.ptr h2.length 0)) := by simp [cv, c0, upd_self]
  rw [ep]
  unfold wpList
  refine hQ _ _ w' w1.heap.size R2 ((F1.ext (upd_ext _ _ _) (by simp)).put (v := .s (.ptr h2.length 0)) (d := some it) (fun t ht => by cases ht; exact hit) (by simp [wfV, wf])) (E1.trans L1 (upd_ext _ _ _)) R1.size (fun hF => ?_) (by rw [upd_self]) (by rw [upd_self]) ?_ (free_of R1 _)
  · have := (R1.keep _ hF).1
    have := R1.below.size
    omega
  · rw [upd_ext ρ1 h2.length _ im hix]; exact hi

set_option maxRecDepth 20000 in
theorem check_calls {w0 : Base} {ρ : Nat → Ph} {h : LH} {w : World} (m : Cm) (R : Rel Tryz.prog w0 ρ h w) (hwf : wfV ρ h.length (.agg (encC m))) :
    Calls Tryz.prog 49 (([FV.agg (encC m)]).map (cv ρ)).toArray w fun e w' => ∃ ρ', e = .returned (cv ρ' (.s (.int .i64 (if okC m then 0 else 1)))) ∧ Rel Tryz.prog w0 ρ' h w' ∧ Ext h.length ρ ρ' := by
  refine calls_of_wp Tryz.func49 body23 ?_
  have hF0 : FrR ρ h.length 55 (initE 0 [FV.agg (encC m)]) { tmps := (([FV.agg (encC m)]).map (cv ρ)).toArray ++ Array.replicate (Tryz.f49.ntmps - (([FV.agg (encC m)]).map (cv ρ)).toArray.size) undef, defers := [] } := by
    have hnt : Tryz.f49.ntmps = 55 := by kernel_rfl
    rw [hnt]
    refine ⟨by simp, rfl, fun t u hu => ?_⟩
    obtain ⟨q1, q2⟩ := init_get [FV.agg (encC m)] 0 t u hu
    rw [Nat.sub_zero] at q2
    have hlt := (List.getElem?_eq_some_iff.1 q2).1
    simp only [List.length_singleton] at hlt
    obtain rfl : t = 0 := by omega
    simp only [List.getElem?_cons_zero, Option.some.injEq] at q2
    subst q2
    exact ⟨by omega, by simp, hwf⟩
  have fin : ∀ (v : Int), v = (if okC m then 0 else 1) → ∀ (ρ' : Nat → Ph) (h'' : LH) (a' : Act) (w' : World) (fr' : Fr), Rel Tryz.prog w0 ρ' h'' w' → Gr h h'' → Ext h.length ρ ρ' → FrR ρ' h''.length 55 fr' a' → fget fr' 2 = some (.s (.int .i64 v)) →
      bodyPost Tryz.prog Tryz.f49 (fun e w' => ∃ ρ', e = .returned (cv ρ' (.s (.int .i64 (if okC m then 0 else 1)))) ∧ Rel Tryz.prog w0 ρ' h w' ∧ Ext h.length ρ ρ') .ret a' w' := by
    rintro v rfl ρ' h'' a' w' fr' R' gr E' F' hv
    have hcr : compRs Tryz.prog Tryz.f49.results.toList = some [.tmp 2] := by kernel_rfl
    obtain ⟨r1, r2, _⟩ := results_ok (P := Tryz.prog) R' F' (es := [.tmp 2]) (v := .s (.int .i64 (if okC m then 0 else 1))) (h' := h'') hcr (by simp only [ressE, resE, hv, Option.map_some, packL, flat1, if_true, packE])
    exact ⟨F'.defers, _, r1, ρ', rfl, Rel.forget R R' E' gr.le gr.same, E'⟩
  -- ahead of the loops
  refine _root_.Go.wp_seq (cok p0 [[1]] ec0 [] (by kernel_rfl) rfl (Φ := fun x fr' h' => x = .normal ∧ fr' = [(1, some (.s (.ptr h.length 0)))] ∧ h' = h ++ [.own 77 (encC m)]) (by simp [ec0, encC]) R hF0 ?_)
  rintro _ _ _ ρ1 a1 w1 ⟨rfl, rfl, rfl⟩ R1 F1 E1 L1
  have ob : ∀ h' : LH, Gr (h ++ [.own 77 (encC m)]) h' → h'[h.length]? = some (.own 77 (encC m)) := fun h' g => g.get get_len
  have ob1 := ob _ (Gr.refl _)
  refine _root_.Go.wp_seq (cok p1 [[1, 3]] ec1 [] (by kernel_rfl) rfl (Φ := fun x fr' h' => x = .normal ∧ fr' = [(1, some (.s (.ptr h.length 0))), (3, some (.s (.str (fieldsB m.k))))] ∧ h' = h ++ [.own 77 (encC m)]) (by
    have e0 : (encC m)[0]? = some (.int .i64 m.k) := rfl
    simp [ec1, ob1, e0, fields_ok]) R1 F1 ?_)
  rintro _ _ _ ρ2 a2 w2 ⟨rfl, rfl, rfl⟩ R2 F2 E2 L2
  have bf := beq_fields m.k
  cases hq : fieldsL m.k == [63] with
  | true =>
    rw [hq] at bf
    have hno : okC m = false := by unfold okC; rw [hq]; rfl
    have bf' : (fieldsB m.k).toList = [63] := by rw [ByteArray.toList_eq]; simpa [fieldsB] using hq
    refine _root_.Go.wp_seq (cok p2 [[1, 3, 13], [2], [2]] ec2 [] (by kernel_rfl) rfl (Φ := fun x fr' h' => x = .ret ∧ fr' = [(2, some (.s (.int .i64 1)))] ∧ h' = h ++ [.own 77 (encC m)]) (by simp [ec2, bf, bf']) R2 F2 ?_)
    rintro _ _ _ ρ3 a3 w3 ⟨rfl, rfl, rfl⟩ R3 F3 E3 L3
    exact fin 1 (by rw [hno]; rfl) ρ3 _ a3 w3 _ R3 (Gr.self _ _) ((E1.trans (Nat.le_refl _) (fun i hi => rfl)).trans (by simp) ((E2.trans (Nat.le_refl _) E3))) F3 rfl
  | false =>
    rw [hq] at bf
    have bf' : ¬ (fieldsB m.k).toList = [63] := by rw [ByteArray.toList_eq]; simpa [fieldsB] using hq
    refine _root_.Go.wp_seq (cok p2 [[1, 3, 13], [2], [2]] ec2 [] (by kernel_rfl) rfl (Φ := fun x fr' h' => x = .normal ∧ fr' = [(1, some (.s (.ptr h.length 0))), (3, some (.s (.str (fieldsB m.k)))), (13, some (.s (.bool false)))] ∧ h' = h ++ [.own 77 (encC m)]) (by simp [ec2, bf, bf']) R2 F2 ?_)
    rintro _ _ _ ρ3 a3 w3 ⟨rfl, rfl, rfl⟩ R3 F3 E3 L3
    have E03 : Ext h.length ρ ρ3 := E1.trans (by simp) (E2.trans (Nat.le_refl _) E3)
    -- the texts
    obtain ⟨_, h4, t1, t2, rfl, t3⟩ := texts_ok m (h ++ [.own 77 (encC m)])
    have hl12 : (encC m).length = 12 := rfl
    have htk : (encC m).take 12 = encC m := rfl
    have he4 : opsE (callX C) g4 [(1, some (.s (.ptr h.length 0))), (3, some (.s (.str (fieldsB m.k)))), (13, some (.s (.bool false)))] (h ++ [.own 77 (encC m)]) = some ([(15, some (.s (.mp ((h ++ [LO.own 77 (encC m)]).length + 1)))), (14, some (.agg (encC m))), (1, some (.s (.ptr h.length 0))), (3, some (.s (.str (fieldsB m.k)))), (13, some (.s (.bool false)))], h4) := by
      simp [g4, opsE, wantE, stepE, isCall, calleeE, opE, odS, odE, odL, fget, fput, cellsOf_bind, ob1, cellsO_own, hl12, htk, t1]
    refine _root_.Go.wp_seq (_root_.Go.wp_seq ?_)
    refine range_reg (tm := 15) (it := 16) (l1 := o4.toList.take 2) (o := o4.toList.getD 2 default) (t := 146) (k := 9) (e := 9) (by kernel_rfl) (by kernel_rfl) he4 t3 rfl (by kernel_rfl) (by kernel_rfl) (by decide) (by kernel_rfl) (by kernel_rfl) R3 F3 ?_
    intro ρ4 a4 w4 r4 R4 F4 E4 hB4 hF4 hb4 hbs4 hi4 hfr4
    have gr4 : Gr h (h4 ++ [.dead]) := ((Gr.self h _).trans t2).app _
    have E04 : Ext h.length ρ ρ4 := E03.trans (by simp) E4
    refine wp_block (wp_loop_rounds (cntL (txtM m).length [] + 1) ?_)
    refine map_rounds stays1 trivial mixedK callK (callX_grow C) (loop1 m (h4 ++ [.dead]) h.length h4.length) (ii := h4.length) (im := (h ++ [LO.own 77 (encC m)]).length + 1) (r := r4) (ρ0 := ρ4) rfl (by simp) (by rw [get_lt (obj_lt t3)]; exact t3) hB4 hF4 ?_ ?_ _ #[] ρ4 (h4 ++ [.dead]) a4 w4 (by simp) R4 (Gr.refl _) (Ext.refl _ _) (F4.keep [1, 3, 16]) hb4 hbs4 hi4 (fun j hj => by cases hj) hfr4
    · -- all are right
      intro hall ρ5 h5 a5 w5 R5 gr5 E5 F5
      simp only [Exit.inBlock, if_true]
      have gr05 : Gr h h5 := gr4.trans gr5
      have E05 : Ext h.length ρ ρ5 := E04.trans gr4.le E5
      have ob5 := ob h5 ((t2.app [.dead]).trans gr5)
      obtain ⟨_, h6, t4, t5, rfl, t6⟩ := numbers_ok m h5
      have he10 : opsE (callX C) g10 (frB1 h.length h4.length m.k) h5 = some ((40, some (.s (.mp (h5.length + 1)))) :: (39, some (.agg (encC m))) :: frB1 h.length h4.length m.k, h6) := by
        simp [g10, frB1, fr1, opsE, wantE, stepE, isCall, calleeE, opE, odS, odE, odL, fget, fput, cellsOf_bind, ob5, cellsO_own, hl12, htk, t4]
      refine _root_.Go.wp_seq (_root_.Go.wp_seq ?_)
      refine range_reg (tm := 40) (it := 41) (l1 := o10.toList.take 2) (o := o10.toList.getD 2 default) (t := 150) (k := 9) (e := 3) (by kernel_rfl) (by kernel_rfl) he10 t6 rfl (by kernel_rfl) (by kernel_rfl) (by decide) (by kernel_rfl) (by kernel_rfl) R5 F5 ?_
      intro ρ7 a7 w7 r7 R7 F7 E7 hB7 hF7 hb7 hbs7 hi7 hfr7
      have gr7 : Gr h (h6 ++ [.dead]) := (gr05.trans t5).app _
      have E07 : Ext h.length ρ ρ7 := E05.trans gr05.le E7
      refine wp_block (wp_loop_rounds (cntL (numM m).length [] + 1) ?_)
      refine map_rounds stays1 trivial mixedK callK (callX_grow C) (loop2 m (h6 ++ [.dead]) h6.length) (ii := h6.length) (im := h5.length + 1) (r := r7) (ρ0 := ρ7) rfl (by simp) (by rw [get_lt (obj_lt t6)]; exact t6) hB7 hF7 ?_ ?_ _ #[] ρ7 (h6 ++ [.dead]) a7 w7 (by simp) R7 (Gr.refl _) (Ext.refl _ _) (F7.keep [3, 41]) hb7 hbs7 hi7 (fun j hj => by cases hj) hfr7
      · intro hall2 ρ8 h8 a8 w8 R8 gr8 E8 F8
        simp only [Exit.inBlock, if_true]
        have hyes : okC m = true := by
          unfold okC
          rw [hq, List.all_eq_true.2 hall, List.all_eq_true.2 hall2]; rfl
        refine cok p3 [[2], [2]] ec3 [] (by kernel_rfl) rfl (Φ := fun x fr' h' => x = .ret ∧ fr' = [(2, some (.s (.int .i64 0)))] ∧ h' = h8) (by simp [ec3]) R8 F8 ?_
        rintro _ _ _ ρ9 a9 w9 ⟨rfl, rfl, rfl⟩ R9 F9 E9 L9
        exact fin 0 (by rw [hyes]; rfl) ρ9 _ a9 w9 _ R9 (gr7.trans gr8) (E07.trans gr7.le (E8.trans gr8.le E9)) F9 rfl
      · rintro ⟨x, hx, hxg⟩ ρ8 h8 a8 w8 R8 gr8 E8 F8
        have hno : okC m = false := by
          cases ho : okC m with
          | false => rfl
          | true =>
            unfold okC at ho
            simp only [Bool.and_eq_true] at ho
            rw [List.all_eq_true.1 ho.2.2 x hx] at hxg
            cases hxg
        exact fin 1 (by rw [hno]; rfl) ρ8 _ a8 w8 _ R8 (gr7.trans gr8) (E07.trans gr7.le E8) F8 rfl
    · rintro ⟨x, hx, hxg⟩ ρ5 h5 a5 w5 R5 gr5 E5 F5
      have hno : okC m = false := by
        cases ho : okC m with
        | false => rfl
        | true =>
          unfold okC at ho
          simp only [Bool.and_eq_true] at ho
          rw [List.all_eq_true.1 ho.2.1 x hx] at hxg
          cases hxg
      exact fin 1 (by rw [hno]; rfl) ρ5 _ a5 w5 _ R5 (gr4.trans gr5) (E04.trans gr4.le E5) F5 rfl
#print axioms check_calls
end Go.Proofs.YtiljgimcipdadaaGreatDoor.Ev.CK
