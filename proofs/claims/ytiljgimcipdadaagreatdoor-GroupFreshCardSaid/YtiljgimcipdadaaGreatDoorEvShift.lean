/- What the machine does from one heap it does from any other that begins otherwise: objects are named by their place, and all names move. -/
import Derived.Test.YtiljgimcipdadaaGreatDoorEvRun
set_option linter.unusedVariables false
set_option linter.unusedSimpArgs false
set_option linter.unusedSectionVars false
namespace Go.Proofs.YtiljgimcipdadaaGreatDoor.Ev
open Go

def shS (k : Nat) : SV → SV
  | .ptr i o => .ptr (k + i) o
  | .sl i p o n => .sl (k + i) p o n
  | .sl0 i p o => .sl0 (k + i) p o
  | .mp i => .mp (k + i)
  | .cl i => .cl (k + i)
  | .iv i => .iv (k + i)
  | v => v
mutual
def shV (k : Nat) : FV → FV
  | .s v => .s (shS k v)
  | .agg l => .agg (l.map (shS k))
  | .tup l => .tup (shVs k l)
def shVs (k : Nat) : List FV → List FV
  | [] => []
  | v :: r => shV k v :: shVs k r
end
def shO (k : Nat) : LO → LO
  | .own t vs => .own t (vs.map (shS k))
  | .ro t vs => .ro t (vs.map (shS k))
  | .dead => .dead
  | .clo f a b => .clo f (shVs k a) (shVs k b)
  | .ifc t v => .ifc t (shV k v)
  | .map es => .map (es.map fun e => (shS k e.1, shS k e.2))
  | .iter s p => .iter s p
def shH (pre h : LH) : LH := pre ++ h.map (shO pre.length)
def shF (k : Nat) (fr : Fr) : Fr := fr.map fun x => (x.1, x.2.map (shV k))
def shR (pre : LH) (x : FV × LH) : FV × LH := (shV pre.length x.1, shH pre x.2)
def shP (pre : LH) (x : Fr × LH) : Fr × LH := (shF pre.length x.1, shH pre x.2)

theorem shVs_map {k : Nat} : ∀ l : List FV, shVs k l = l.map (shV k)
  | [] => rfl
  | v :: r => by simp [shVs, shVs_map r]

theorem shS_sl {k i p o n : Nat} : shS k (.sl i p o n) = .sl (k + i) p o n := rfl
theorem shS_mp {k i : Nat} : shS k (.mp i) = .mp (k + i) := rfl
theorem shS_nl {k : Nat} {v : SV} (h : nlS v = true) : shS k v = v := by
  cases v <;> first | rfl | cases h
theorem shL_nl {k : Nat} : ∀ {l : List SV}, l.all nlS = true → l.map (shS k) = l
  | [], _ => rfl
  | v :: r, h => by
    simp only [List.all_cons, Bool.and_eq_true] at h
    simp only [List.map_cons, shS_nl h.1, shL_nl h.2]
theorem shV_nl {k : Nat} {v : FV} (h : nlV v = true) : shV k v = v := by
  cases v with
  | s v => simp only [shV, shS_nl h]
  | agg l => simp only [shV, shL_nl h]
  | tup l =>
    cases l with
    | nil => rfl
    | cons a r => cases h

variable {pre : LH}
theorem sh_len (h : LH) : (shH pre h).length = pre.length + h.length := by simp [shH]
theorem sh_get (h : LH) (i : Nat) : (shH pre h)[pre.length + i]? = h[i]?.map (shO pre.length) := by
  unfold shH
  rw [List.getElem?_append_right (by omega), Nat.add_sub_cancel_left, List.getElem?_map]
theorem sh_set (h : LH) (i : Nat) (o : LO) : (shH pre h).set (pre.length + i) (shO pre.length o) = shH pre (h.set i o) := by
  unfold shH
  rw [List.set_append_right _ _ (by omega), Nat.add_sub_cancel_left, List.map_set]
theorem sh_app (h : LH) (o : LO) : shH pre h ++ [shO pre.length o] = shH pre (h ++ [o]) := by simp [shH]
theorem sh_fget {k : Nat} : ∀ (fr : Fr) (n : Nat), fget (shF k fr) n = (fget fr n).map (shV k)
  | [], n => rfl
  | (m, v) :: r, n => by
    simp only [shF, List.map_cons, fget]
    split
    · rfl
    · exact sh_fget r n
theorem sh_put {k : Nat} (fr : Fr) (d : Option Nat) (v : Option FV) : fput (shF k fr) d (v.map (shV k)) = shF k (fput fr d v) := by
  cases d <;> rfl
theorem sh_keep {k : Nat} (keep : List Nat) (fr : Fr) : keepF keep (shF k fr) = shF k (keepF keep fr) := by
  simp only [keepF, shF, List.map_map]
  refine List.map_congr_left fun n _ => ?_
  simp only [Function.comp, ← sh_fget]; rfl
theorem sh_odE {k : Nat} (fr : Fr) {x : OD} (hx : nlD x = true) : odE (shF k fr) x = (odE fr x).map (shV k) := by
  cases x with
  | t n => exact sh_fget fr n
  | c v => simp only [odE, Option.map_some, shV_nl hx]
theorem sh_odS {k : Nat} (fr : Fr) {x : OD} (hx : nlD x = true) : odS (shF k fr) x = (odS fr x).map (shS k) := by
  unfold odS
  rw [sh_odE fr hx]
  cases odE fr x with
  | none => rfl
  | some v => cases v <;> rfl
theorem sh_odL {k : Nat} (fr : Fr) : ∀ {l : List OD}, l.all nlD = true → odL (shF k fr) l = (odL fr l).map (shVs k)
  | [], _ => rfl
  | x :: r, h => by
    simp only [List.all_cons, Bool.and_eq_true] at h
    simp only [odL, sh_odE fr h.1, sh_odL fr h.2]
    cases odE fr x with
    | none => rfl
    | some v => cases odL fr r <;> rfl
theorem sh_odSL {k : Nat} (fr : Fr) : ∀ {l : List OD}, l.all nlD = true → odSL (shF k fr) l = (odSL fr l).map (List.map (shS k))
  | [], _ => rfl
  | x :: r, h => by
    simp only [List.all_cons, Bool.and_eq_true] at h
    simp only [odSL, sh_odS fr h.1, sh_odSL fr h.2]
    cases odS fr x with
    | none => rfl
    | some v => cases odSL fr r <;> rfl
theorem sh_cells {k : Nat} (v : FV) : fcells (shV k v) = (fcells v).map (List.map (shS k)) := by
  cases v <;> rfl
theorem sh_flat1 {k : Nat} : ∀ l : List FV, flat1 (shVs k l) = flat1 l
  | [] => rfl
  | v :: r => by cases v <;> simp [shVs, shV, flat1, sh_flat1 r]
theorem sh_cellsOf (h : LH) (i : Nat) : cellsOf (shH pre h) (pre.length + i) = (cellsOf h i).map fun x => (x.1, x.2.map (shS pre.length)) := by
  unfold cellsOf
  rw [sh_get]
  cases h[i]? with
  | none => rfl
  | some o => cases o <;> rfl
theorem sh_setL {k : Nat} : ∀ (l vs : List SV) (o : Nat), setL (vs.map (shS k)) o (l.map (shS k)) = (setL vs o l).map (shS k)
  | [], vs, o => rfl
  | c :: r, vs, o => by
    simp only [List.map_cons, setL]
    rw [← List.map_set, sh_setL r]
theorem sh_fill {k : Nat} (fr : Fr) : ∀ (ps : List (Nat × Nat × OD)) (cs : List SV), (ps.all fun p => nlD p.2.2) = true → fillE (shF k fr) (cs.map (shS k)) ps = (fillE fr cs ps).map (List.map (shS k))
  | [], cs, _ => rfl
  | (o, n, x) :: r, cs, h => by
    simp only [List.all_cons, Bool.and_eq_true] at h
    simp only [fillE, sh_odE fr h.1]
    cases odE fr x with
    | none => rfl
    | some v =>
      simp only [Option.map_some, Option.bind_some, sh_cells]
      cases fcells v with
      | none => rfl
      | some l =>
        simp only [Option.map_some, List.length_map]
        split
        · split
          · rw [sh_setL, sh_fill fr r _ h.2]
          · rfl
        · rfl
theorem sh_int (op : BinOp) (q : IntKind) (a b : Int) (k : Nat) : (intOp op q a b).map (shS k) = intOp op q a b := by
  cases op <;> simp only [intOp] <;> (try split) <;> rfl
theorem sh_shop (op : BinOp) (q : IntKind) (a b : Int) (k : Nat) : (shOp op q a b).map (shS k) = shOp op q a b := by
  unfold shOp
  split
  · rfl
  · cases op <;> rfl
theorem sh_str (op : BinOp) (a b : ByteArray) (k : Nat) : (strOp op a b).map (shS k) = strOp op a b := by
  cases op <;> simp only [strOp] <;> (try split) <;> rfl
theorem sh_cpl (op : BinOp) (a b c d : Nat) (k : Nat) : (cplOp op a b c d).map (shS k) = cplOp op a b c d := by
  cases op <;> simp only [cplOp] <;> (try split) <;> rfl
theorem sh_flt (op : BinOp) (a b : Nat) (k : Nat) : (fltOp op a b).map (shS k) = fltOp op a b := by
  cases op <;> rfl
theorem sh_bin (op : BinOp) (x y : SV) (k : Nat) : binE op (shS k x) (shS k y) = (binE op x y).map (shS k) := by
  cases x with
  | int q a =>
    cases y <;> try rfl
    simp only [shS, binE]
    split
    · rw [sh_shop]
    · split
      · rw [sh_int]
      · rfl
  | str a =>
    cases y <;> try rfl
    simp only [shS, binE, sh_str]
  | flt q a =>
    cases q <;> cases y <;> try rfl
    rename_i q b
    cases q <;> simp only [shS, binE, sh_flt, Option.map_none]
  | cpl q a b =>
    cases q <;> cases y <;> try rfl
    rename_i q c d
    cases q <;> simp only [shS, binE, sh_cpl, Option.map_none]
  | _ => cases y <;> rfl
theorem sh_eqp (x y : SV) (k : Nat) : eqpE (shS k x) (shS k y) = eqpE x y := by cases x <;> cases y <;> rfl
theorem sh_eqn (x y : SV) (k : Nat) : eqnE (shS k x) (shS k y) = eqnE x y := by cases x <;> cases y <;> rfl
theorem sh_cellEq (q : Nat) (x y : SV) (k : Nat) : cellEq q (shS k x) (shS k y) = cellEq q x y := by
  cases x <;> cases y <;> first | rfl | (match q with
    | 0 => rfl
    | 1 => rfl
    | 2 => rfl
    | _ + 3 => rfl)
theorem sh_cellsEq (k : Nat) (xs ys : List SV) : ∀ l, cellsEq (xs.map (shS k)) (ys.map (shS k)) l = cellsEq xs ys l
  | [] => rfl
  | (o, q) :: r => by
    simp only [cellsEq, List.getElem?_map]
    cases xs[o]? with
    | none => rfl
    | some x =>
      cases ys[o]? with
      | none => rfl
      | some y =>
        simp only [Option.map_some, sh_cellEq, sh_cellsEq k xs ys r]
theorem sh_un (op : UnOp) (x : SV) (k : Nat) : unE op (shS k x) = (unE op x).map (shS k) := by
  cases op <;> cases x <;> rfl
theorem sh_lenE (x : SV) (k : Nat) : lenE (shS k x) = lenE x := by cases x <;> rfl
theorem sh_elems (h : LH) (t z : Nat) (x : SV) : elems (shH pre h) t z (shS pre.length x) = (elems h t z x).map (List.map (shS pre.length)) := by
  cases x with
  | sl i p o n =>
    cases n with
    | zero => rfl
    | succ n =>
      simp only [shS, elems, sh_cellsOf]
      cases cellsOf h i with
      | none => rfl
      | some y =>
        obtain ⟨t', vs⟩ := y
        simp only [Option.map_some, List.length_map]
        split
        · split
          · simp only [Option.map_some, List.map_take, List.map_drop]
          · rfl
        · rfl
  | _ => rfl
theorem sh_bytes (k : Nat) : ∀ l : List SV, bytesOf (l.map (shS k)) = bytesOf l
  | [] => rfl
  | v :: r => by
    cases v <;> try rfl
    rename_i q n
    cases q <;> simp only [List.map_cons, shS, bytesOf, sh_bytes k r]
theorem sh_minE (q : IntKind) (k : Nat) : ∀ (l : List SV) (a : Int), minE q a (l.map (shS k)) = (minE q a l).map (shS k)
  | [], a => rfl
  | v :: r, a => by cases v <;> first | rfl | simp only [List.map_cons, shS, minE, sh_minE q k r]
theorem sh_maxE (q : IntKind) (k : Nat) : ∀ (l : List SV) (a : Int), maxE q a (l.map (shS k)) = (maxE q a l).map (shS k)
  | [], a => rfl
  | v :: r, a => by cases v <;> first | rfl | simp only [List.map_cons, shS, maxE, sh_maxE q k r]
theorem sh_rep (k n : Nat) (z : List SV) : (rep n z).map (shS k) = rep n (z.map (shS k)) := by
  simp only [rep, List.map_flatten, List.map_replicate]
theorem sh_appE (h : LH) (t z y : Nat) (x : SV) (n : Nat) (new : List SV) : appE (shH pre h) t z y (shS pre.length x) n (new.map (shS pre.length)) = (appE h t z y x n new).map (shR pre) := by
  unfold appE
  split
  · cases x <;> rfl
  · cases x with
    | nils =>
      simp only [shS]
      split
      · simp only [Option.map_some, shR, shV, shS, sh_len, ← sh_app, shO]
      · rfl
    | sl0 i p o =>
      simp only [shS]
      split
      · simp only [Option.map_some, shR, shV, shS, sh_len, ← sh_app, shO]
      · rfl
    | sl i p o m =>
      simp only [shS, sh_get]
      cases h[i]? with
      | none => rfl
      | some ob =>
        cases ob <;> try rfl
        rename_i t' vs
        simp only [Option.map_some, shO, List.length_map]
        split
        · split
          · split
            · simp only [Option.map_some, shR, shV, shS, sh_len, Option.some.injEq, Prod.mk.injEq, true_and]
              rw [← sh_app, ← sh_set]
              simp only [shO, List.map_append, List.map_take, List.map_drop]
            · rfl
          · rfl
        · rfl
    | _ => rfl
theorem sh_keyEq (a b : SV) (k : Nat) : keyEq (shS k a) (shS k b) = keyEq a b := by cases a <;> cases b <;> rfl
theorem sh_getM (a : SV) (k : Nat) : ∀ es : List (SV × SV), getM (shS k a) (es.map fun e => (shS k e.1, shS k e.2)) = (getM a es).map (Option.map (shS k))
  | [] => rfl
  | e :: r => by
    simp only [List.map_cons, getM, sh_keyEq, sh_getM a k r]
    split <;> rfl
theorem sh_putM (a v : SV) (k : Nat) : ∀ es : List (SV × SV), putM (shS k a) (shS k v) (es.map fun e => (shS k e.1, shS k e.2)) = (putM a v es).map (List.map fun e => (shS k e.1, shS k e.2))
  | [] => rfl
  | e :: r => by
    simp only [List.map_cons, putM, sh_keyEq, sh_putM a v k r]
    split
    · rfl
    · cases putM a v r <;> rfl
    · rfl
theorem sh_isKey (q : Bool) (a : SV) (k : Nat) : isKey q (shS k a) = isKey q a := by cases a <;> rfl
theorem sh_nlS (a : SV) (k : Nat) : nlS (shS k a) = nlS a := by cases a <;> rfl
theorem sh_bound {k : Nat} (fr : Fr) (d : Nat) {x : Option OD} (hx : nlO x = true) : bound (shF k fr) d x = bound fr d x := by
  cases x with
  | none => rfl
  | some x =>
    simp only [bound, sh_odS fr (x := x) hx]
    cases odS fr x with
    | none => rfl
    | some v => cases v <;> rfl

/-- An operation whose constants name no object. -/
def nlX : EO → Bool
  | .mov x | .nilc x | .nilf x | .un _ x | .toi _ x | .itof _ x | .ftoi _ x | .b2s _ x | .mki _ x | .sli0 x | .fad _ x | .fld _ _ _ x | .ext x _ | .len x | .slen x | .re x | .im x => nlD x
  | .load _ _ x | .new _ _ x | .rng x | .nxt x | .mlen x | .s2b _ x => nlD x
  | .clr _ z x => z.all nlS && nlD x
  | .mks _ _ z x => z.all nlS && nlD x
  | .store _ x y => nlD x && nlD y
  | .pick c a b => nlD c && nlD a && nlD b
  | .build z ps => z.all nlS && ps.all fun p => nlD p.2.2
  | .bsl _ _ z ps => z.all nlS && ps.all fun p => nlD p.2.2
  | .bin _ x y | .eqb _ x y | .eqp _ x y | .eqn _ x y | .eqs _ _ x y | .cplx x y => nlD x && nlD y
  | .mkf _ a b => a.all nlD && b.all nlD
  | .sli _ _ x a b => nlD x && nlO a && nlO b
  | .subs x a b => nlD x && nlO a && nlO b
  | .iad _ _ x i => nlD x && nlD i
  | .idx x i => nlD x && nlD i
  | .call _ l => l.all nlD
  | .callv x l => nlD x && l.all nlD
  | .app _ _ _ x y => nlD x && nlD y
  | .apps _ _ x y => nlD x && nlD y
  | .appz _ _ z x y => z.all nlS && nlD x && nlD y
  | .copy _ _ x y => nlD x && nlD y
  | .mn x l | .mx x l => nlD x && l.all nlD
  | .mkm => true
  | .mput _ m k x => nlD m && nlD k && nlD x
  | .mget _ _ z m k => nlS z && nlD m && nlD k

theorem sh_strCells (b : ByteArray) (k : Nat) : (strCells b).map (shS k) = strCells b := by
  simp only [strCells, List.map_map]; rfl

theorem opE_sh {fr : Fr} (h : LH) (op : EO) (hn : nlX op = true) : opE (shF pre.length fr) (shH pre h) op = (opE fr h op).map (shR pre) := by
  cases op with
  | mov x =>
    simp only [nlX] at hn
    simp only [opE, sh_odE fr hn]
    cases odE fr x <;> rfl
  | nilc x =>
    simp only [nlX] at hn
    simp only [opE, sh_odS fr hn]
    cases odS fr x with
    | none => rfl
    | some v => cases v <;> rfl
  | nilf x =>
    simp only [nlX] at hn
    simp only [opE, sh_odS fr hn]
    cases odS fr x with
    | none => rfl
    | some v =>
      cases v <;> try rfl
      simp only [Option.map_some, shS, sh_get]
      rename_i i
      cases h[i]? with
      | none => rfl
      | some o => cases o <;> rfl
  | pick c a b =>
    simp only [nlX, Bool.and_eq_true] at hn
    simp only [opE, sh_odS fr hn.1.1, sh_odE fr hn.1.2, sh_odE fr hn.2]
    cases odS fr c with
    | none => rfl
    | some v =>
      cases v <;> try rfl
      rename_i t
      cases odE fr a with
      | none => rfl
      | some x =>
        cases odE fr b with
        | none => rfl
        | some y => cases t <;> rfl
  | load g n a =>
    simp only [nlX] at hn
    simp only [opE, sh_odS fr hn]
    cases odS fr a with
    | none => rfl
    | some v =>
      cases v <;> try rfl
      rename_i i o
      simp only [Option.map_some, shS, sh_cellsOf]
      cases cellsOf h i with
      | none => rfl
      | some q =>
        obtain ⟨t, vs⟩ := q
        simp only [Option.map_some, List.length_map, List.getElem?_map]
        cases g with
        | true =>
          simp only [if_true]
          split
          · simp only [Option.map_some, shR, shV, List.map_take, List.map_drop]
          · rfl
        | false =>
          simp only [Bool.false_eq_true, if_false]
          cases vs[o]? <;> rfl
  | store n a x =>
    simp only [nlX, Bool.and_eq_true] at hn
    simp only [opE, sh_odS fr hn.1, sh_odE fr hn.2]
    cases odS fr a with
    | none => rfl
    | some v =>
      cases v <;> try rfl
      rename_i i o
      cases odE fr x with
      | none => rfl
      | some u =>
        simp only [Option.map_some, Option.bind_some, sh_cells]
        cases fcells u with
        | none => rfl
        | some l =>
          simp only [Option.map_some, shS, sh_get]
          cases h[i]? with
          | none => rfl
          | some ob =>
            cases ob <;> try rfl
            rename_i t vs
            simp only [Option.map_some, shO, List.length_map]
            split
            · split
              · rw [sh_setL]
                have := sh_set (pre := pre) h i (.own t (setL vs o l))
                simp only [shO] at this
                rw [this]; rfl
              · rfl
            · rfl
  | new t n x =>
    simp only [nlX] at hn
    simp only [opE, sh_odE fr hn]
    cases odE fr x with
    | none => rfl
    | some u =>
      simp only [Option.map_some, Option.bind_some, sh_cells]
      cases fcells u with
      | none => rfl
      | some l =>
        simp only [Option.map_some, List.length_map]
        split
        · simp only [Option.map_some, shR, shV, shS, sh_len, ← sh_app, shO]
        · rfl
  | build z ps =>
    simp only [nlX, Bool.and_eq_true] at hn
    have := sh_fill (k := pre.length) fr ps z hn.2
    rw [shL_nl hn.1] at this
    simp only [opE, this]
    cases fillE fr z ps <;> rfl
  | bsl t n z ps =>
    simp only [nlX, Bool.and_eq_true] at hn
    have := sh_fill (k := pre.length) fr ps (rep n z) hn.2
    rw [sh_rep, shL_nl hn.1] at this
    simp only [opE, this]
    cases fillE fr (rep n z) ps with
    | none => rfl
    | some l => simp only [Option.map_some, shR, shV, shS, sh_len, ← sh_app, shO]
  | bin op x y =>
    simp only [nlX, Bool.and_eq_true] at hn
    simp only [opE, sh_odS fr hn.1, sh_odS fr hn.2]
    cases odS fr x with
    | none => rfl
    | some a =>
      cases odS fr y with
      | none => rfl
      | some b =>
        simp only [Option.map_some, sh_bin]
        cases binE op a b <;> rfl
  | eqb neq x y =>
    simp only [nlX, Bool.and_eq_true] at hn
    simp only [opE, sh_odS fr hn.1, sh_odS fr hn.2]
    cases odS fr x with
    | none => rfl
    | some a =>
      cases odS fr y with
      | none => cases a <;> rfl
      | some b => cases a <;> cases b <;> rfl
  | eqp neq x y =>
    simp only [nlX, Bool.and_eq_true] at hn
    simp only [opE, sh_odS fr hn.1, sh_odS fr hn.2]
    cases odS fr x with
    | none => rfl
    | some a =>
      cases odS fr y with
      | none => rfl
      | some b =>
        simp only [Option.map_some, sh_eqp]
        cases eqpE a b <;> rfl
  | eqn neq x y =>
    simp only [nlX, Bool.and_eq_true] at hn
    simp only [opE, sh_odS fr hn.1, sh_odS fr hn.2]
    cases odS fr x with
    | none => rfl
    | some a =>
      cases odS fr y with
      | none => rfl
      | some b =>
        simp only [Option.map_some, sh_eqn]
        cases eqnE a b <;> rfl
  | eqs neq offs x y =>
    simp only [nlX, Bool.and_eq_true] at hn
    simp only [opE, sh_odE fr hn.1, sh_odE fr hn.2]
    cases odE fr x with
    | none => rfl
    | some a =>
      cases odE fr y with
      | none => cases a <;> rfl
      | some b =>
        cases a <;> cases b <;> try rfl
        simp only [Option.map_some, shV, sh_cellsEq]
        rename_i l l'
        cases cellsEq l l' offs <;> rfl
  | un op x =>
    simp only [nlX] at hn
    simp only [opE, sh_odS fr hn]
    cases odS fr x with
    | none => rfl
    | some a =>
      simp only [Option.map_some, sh_un]
      cases unE op a <;> rfl
  | toi q x =>
    simp only [nlX] at hn
    simp only [opE, sh_odS fr hn]
    cases odS fr x with
    | none => rfl
    | some a => cases a <;> rfl
  | itof q x =>
    simp only [nlX] at hn
    simp only [opE, sh_odS fr hn]
    cases odS fr x with
    | none => rfl
    | some a => cases a <;> rfl
  | ftoi q x =>
    simp only [nlX] at hn
    simp only [opE, sh_odS fr hn]
    cases odS fr x with
    | none => rfl
    | some a =>
      cases a <;> try rfl
      simp only [Option.map_some, shS]
      split
      · split <;> rfl
      · rfl
  | b2s t x =>
    simp only [nlX] at hn
    simp only [opE, sh_odS fr hn]
    cases odS fr x with
    | none => rfl
    | some a =>
      simp only [Option.map_some, sh_elems]
      cases elems h t 1 a with
      | none => rfl
      | some l =>
        simp only [Option.map_some, Option.bind_some, sh_bytes]
        cases bytesOf l <;> rfl
  | mkf f a b =>
    simp only [nlX, Bool.and_eq_true] at hn
    simp only [opE, sh_odL fr hn.1, sh_odL fr hn.2]
    cases odL fr a with
    | none => rfl
    | some x =>
      cases odL fr b with
      | none => rfl
      | some y =>
        simp only [Option.map_some, sh_flat1]
        split
        · simp only [Option.map_some, shR, shV, shS, sh_len, ← sh_app, shO]
        · rfl
  | mki t x =>
    simp only [nlX] at hn
    simp only [opE, sh_odE fr hn]
    cases odE fr x with
    | none => rfl
    | some v =>
      have : flat1 [shV pre.length v] = flat1 [v] := sh_flat1 [v]
      simp only [Option.map_some, this]
      split
      · simp only [Option.map_some, shR, shV, shS, sh_len, ← sh_app, shO]
      · rfl
  | mks t y z l =>
    simp only [nlX, Bool.and_eq_true] at hn
    simp only [opE, sh_odS fr hn.2]
    cases odS fr l with
    | none => rfl
    | some v =>
      cases v <;> try rfl
      rename_i q n
      cases q <;> try rfl
      simp only [Option.map_some, shS]
      split
      · split
        · simp only [Option.map_some, shR, shV, shS, sh_len, ← sh_app, shO, sh_rep, shL_nl hn.1]
        · rfl
      · rfl
  | sli t z x lo hi =>
    simp only [nlX, Bool.and_eq_true] at hn
    simp only [opE, sh_odS fr hn.1.1, sh_bound fr _ hn.1.2, sh_bound fr _ hn.2]
    cases odS fr x with
    | none => rfl
    | some v =>
      cases v <;> try rfl
      · simp only [Option.map_some, shS]
        split <;> rfl
      · rename_i i p o n
        simp only [Option.map_some, shS, sh_cellsOf, sh_bound fr _ hn.2]
        cases bound fr 0 lo with
        | none => rfl
        | some l =>
          cases bound fr n hi with
          | none => rfl
          | some u =>
            cases cellsOf h i with
            | none => rfl
            | some q =>
              simp only [Option.map_some]
              split
              · split
                · split <;> rfl
                · rfl
              · rfl
  | subs x lo hi =>
    simp only [nlX, Bool.and_eq_true] at hn
    simp only [opE, sh_odS fr hn.1.1, sh_bound fr _ hn.1.2]
    cases odS fr x with
    | none => rfl
    | some v =>
      cases v <;> try rfl
      rename_i s
      simp only [Option.map_some, shS, sh_bound fr _ hn.2]
      cases bound fr 0 lo with
      | none => rfl
      | some l =>
        cases bound fr s.size hi with
        | none => rfl
        | some u =>
          simp only
          split
          · split <;> rfl
          · rfl
  | sli0 x =>
    simp only [nlX] at hn
    simp only [opE, sh_odS fr hn]
    cases odS fr x with
    | none => rfl
    | some v => cases v <;> rfl
  | fad o x =>
    simp only [nlX] at hn
    simp only [opE, sh_odS fr hn]
    cases odS fr x with
    | none => rfl
    | some v => cases v <;> rfl
  | fld g o n x =>
    simp only [nlX] at hn
    simp only [opE, sh_odE fr hn]
    cases odE fr x with
    | none => rfl
    | some v =>
      cases v <;> try rfl
      rename_i l
      simp only [Option.map_some, shV, List.length_map, List.getElem?_map]
      cases g with
      | true =>
        simp only [if_true]
        split
        · simp only [Option.map_some, shR, shV, List.map_take, List.map_drop]
        · rfl
      | false =>
        simp only [Bool.false_eq_true, if_false]
        cases l[o]? <;> rfl
  | iad t z x i =>
    simp only [nlX, Bool.and_eq_true] at hn
    simp only [opE, sh_odS fr hn.1, sh_odS fr hn.2]
    cases odS fr x with
    | none => rfl
    | some v =>
      cases v <;> try rfl
      rename_i j p o n
      cases odS fr i with
      | none => rfl
      | some u =>
        cases u <;> try rfl
        simp only [Option.map_some, shS, sh_cellsOf]
        cases cellsOf h j with
        | none => rfl
        | some q =>
          simp only [Option.map_some]
          split
          · split
            · split <;> rfl
            · rfl
          · rfl
  | idx x i =>
    simp only [nlX, Bool.and_eq_true] at hn
    simp only [opE, sh_odS fr hn.1, sh_odS fr hn.2]
    cases odS fr x with
    | none => rfl
    | some v =>
      cases v <;> try rfl
      cases odS fr i with
      | none => rfl
      | some u =>
        cases u <;> try rfl
        simp only [Option.map_some, shS]
        split
        · split <;> rfl
        · rfl
  | ext x i =>
    simp only [nlX] at hn
    simp only [opE, sh_odE fr hn]
    cases odE fr x with
    | none => rfl
    | some v =>
      cases v <;> try rfl
      rename_i l
      simp only [Option.map_some, shV, shVs_map, List.getElem?_map]
      cases l[i]? <;> rfl
  | call f l => rfl
  | callv x l => rfl
  | len x =>
    simp only [nlX] at hn
    simp only [opE, sh_odS fr hn]
    cases odS fr x with
    | none => rfl
    | some v =>
      simp only [Option.map_some, sh_lenE]
      cases lenE v <;> rfl
  | slen x =>
    simp only [nlX] at hn
    simp only [opE, sh_odS fr hn]
    cases odS fr x with
    | none => rfl
    | some v => cases v <;> rfl
  | app t z y x u =>
    simp only [nlX, Bool.and_eq_true] at hn
    simp only [opE, sh_odS fr hn.1, sh_odS fr hn.2]
    cases odS fr x with
    | none => rfl
    | some v =>
      cases odS fr u with
      | none => rfl
      | some w =>
        simp only [Option.map_some, sh_lenE, sh_elems]
        cases lenE w with
        | none => rfl
        | some n =>
          cases elems h t z w with
          | none => rfl
          | some new => simp only [Option.map_some, sh_appE]
  | apps t y x u =>
    simp only [nlX, Bool.and_eq_true] at hn
    simp only [opE, sh_odS fr hn.1, sh_odS fr hn.2]
    cases odS fr x with
    | none => rfl
    | some v =>
      cases odS fr u with
      | none => rfl
      | some w =>
        cases w <;> try rfl
        rename_i b
        have := sh_appE (pre := pre) h t 1 y v b.size (strCells b)
        rw [sh_strCells] at this
        simp only [Option.map_some]
        exact this
  | appz t y z x n =>
    simp only [nlX, Bool.and_eq_true] at hn
    simp only [opE, sh_odS fr hn.1.2, sh_odS fr hn.2]
    cases odS fr x with
    | none => rfl
    | some v =>
      cases odS fr n with
      | none => rfl
      | some w =>
        cases w <;> try rfl
        rename_i q m
        cases q <;> try rfl
        simp only [Option.map_some]
        show (if 0 ≤ m then appE (shH pre h) t z.length y (shS pre.length v) m.toNat (rep m.toNat z) else none) = Option.map (shR pre) (if 0 ≤ m then appE h t z.length y v m.toNat (rep m.toNat z) else none)
        split
        · have := sh_appE (pre := pre) h t z.length y v m.toNat (rep m.toNat z)
          rw [sh_rep, shL_nl hn.1.1] at this
          rw [this]
        · rfl
  | copy t z x y =>
    simp only [nlX, Bool.and_eq_true] at hn
    simp only [opE, sh_odS fr hn.1, sh_odS fr hn.2]
    cases odS fr x with
    | none => rfl
    | some v =>
      cases v <;> try rfl
      rename_i i p o m
      cases odS fr y with
      | none => rfl
      | some u =>
        simp only [Option.map_some, shS_sl, sh_get, sh_lenE, sh_elems]
        cases h[i]? with
        | none => rfl
        | some ob =>
          cases ob <;> try rfl
          rename_i t' vs
          cases lenE u with
          | none => rfl
          | some n =>
            cases elems h t z u with
            | none => rfl
            | some new =>
              simp only [Option.map_some, shO, List.length_map]
              split
              · split
                · have := sh_set (pre := pre) h i (.own t' (setL vs (o * z) (new.take (min n m * z))))
                  simp only [shO, ← sh_setL, List.map_take] at this
                  rw [this]; rfl
                · rfl
              · rfl
  | clr t z x =>
    simp only [nlX, Bool.and_eq_true] at hn
    simp only [opE, sh_odS fr hn.2]
    cases odS fr x with
    | none => rfl
    | some v =>
      cases v <;> try rfl
      rename_i i p o n
      cases n with
      | zero => rfl
      | succ n =>
        simp only [Option.map_some, shS, sh_get]
        cases h[i]? with
        | none => rfl
        | some ob =>
          cases ob <;> try rfl
          rename_i t' vs
          simp only [Option.map_some, shO, List.length_map]
          split
          · split
            · have := sh_set (pre := pre) h i (.own t' (setL vs (o * z.length) (rep (n + 1) z)))
              simp only [shO, ← sh_setL, sh_rep, shL_nl hn.1] at this
              rw [this]; rfl
            · rfl
          · rfl
  | mn x l =>
    simp only [nlX, Bool.and_eq_true] at hn
    simp only [opE, sh_odS fr hn.1, sh_odSL fr hn.2]
    cases odS fr x with
    | none => rfl
    | some v =>
      cases v <;> try rfl
      cases odSL fr l with
      | none => rfl
      | some vs =>
        simp only [Option.map_some, shS, sh_minE]
        rename_i q a
        cases minE q a vs <;> rfl
  | mx x l =>
    simp only [nlX, Bool.and_eq_true] at hn
    simp only [opE, sh_odS fr hn.1, sh_odSL fr hn.2]
    cases odS fr x with
    | none => rfl
    | some v =>
      cases v <;> try rfl
      cases odSL fr l with
      | none => rfl
      | some vs =>
        simp only [Option.map_some, shS, sh_maxE]
        rename_i q a
        cases maxE q a vs <;> rfl
  | re x =>
    simp only [nlX] at hn
    simp only [opE, sh_odS fr hn]
    cases odS fr x with
    | none => rfl
    | some v => cases v <;> rfl
  | im x =>
    simp only [nlX] at hn
    simp only [opE, sh_odS fr hn]
    cases odS fr x with
    | none => rfl
    | some v => cases v <;> rfl
  | cplx x y =>
    simp only [nlX, Bool.and_eq_true] at hn
    simp only [opE, sh_odS fr hn.1, sh_odS fr hn.2]
    cases odS fr x with
    | none => rfl
    | some a =>
      cases a <;> try rfl
      rename_i q a
      cases q <;> try rfl
      cases odS fr y with
      | none => rfl
      | some b =>
        cases b <;> try rfl
        rename_i q b
        cases q <;> rfl
  | rng x =>
    simp only [nlX] at hn
    simp only [opE, sh_odS fr hn]
    cases odS fr x with
    | none => rfl
    | some v =>
      cases v <;> try rfl
      simp only [Option.map_some, shR, shV, shS, sh_len, ← sh_app, shO]
  | nxt x =>
    simp only [nlX] at hn
    simp only [opE, sh_odS fr hn]
    cases odS fr x with
    | none => rfl
    | some v =>
      cases v <;> try rfl
      rename_i i o
      cases o with
      | succ o => rfl
      | zero =>
        simp only [Option.map_some, shS, sh_get]
        cases h[i]? with
        | none => rfl
        | some ob =>
          cases ob <;> try rfl
          rename_i s pos
          simp only [Option.map_some, shO]
          cases s.data.toList[pos]? with
          | none => rfl
          | some b =>
            simp only
            split
            · have := sh_set (pre := pre) h i (.iter s (pos + 1))
              simp only [shO] at this
              rw [this]; rfl
            · rfl
  | mkm =>
    simp only [opE, Option.map_some, shR, shV, shS, sh_len, ← sh_app, shO]
    rfl
  | mput q m k x =>
    simp only [nlX, Bool.and_eq_true] at hn
    simp only [opE, sh_odS fr hn.1.1, sh_odS fr hn.1.2, sh_odS fr hn.2]
    cases odS fr m with
    | none => rfl
    | some u =>
      cases u <;> try rfl
      rename_i i
      cases odS fr k with
      | none => rfl
      | some a =>
        cases odS fr x with
        | none => rfl
        | some v =>
          simp only [Option.map_some, shS_mp, sh_get]
          cases h[i]? with
          | none => rfl
          | some ob =>
            cases ob <;> try rfl
            rename_i es
            simp only [Option.map_some, shO, sh_isKey, sh_nlS, sh_putM]
            split
            · cases putM a v es with
              | none => rfl
              | some es' =>
                have := sh_set (pre := pre) h i (.map es')
                simp only [shO] at this
                simp only [Option.map_some]
                rw [this]; rfl
            · rfl
  | mget q ok z m k =>
    simp only [nlX, Bool.and_eq_true] at hn
    simp only [opE, sh_odS fr hn.1.2, sh_odS fr hn.2]
    cases odS fr m with
    | none => rfl
    | some u =>
      cases u <;> try rfl
      rename_i i
      cases odS fr k with
      | none => rfl
      | some a =>
        simp only [Option.map_some, shS_mp, sh_get]
        cases h[i]? with
        | none => rfl
        | some ob =>
          cases ob <;> try rfl
          rename_i es
          simp only [Option.map_some, shO, sh_isKey, sh_getM]
          split
          · cases getM a es with
            | none => rfl
            | some r =>
              have hz : ((r.map (shS pre.length)).getD z) = shS pre.length (r.getD z) := by
                cases r with
                | none => exact (shS_nl hn.1.1).symm
                | some r => rfl
              simp only [Option.map_some, hz, Option.isSome_map]
              cases ok <;> rfl
          · rfl
  | mlen x =>
    simp only [nlX] at hn
    simp only [opE, sh_odS fr hn]
    cases odS fr x with
    | none => rfl
    | some v =>
      cases v <;> try rfl
      rename_i i
      simp only [Option.map_some, shS, sh_get]
      cases h[i]? with
      | none => rfl
      | some ob =>
        cases ob <;> try rfl
        simp only [Option.map_some, shO, List.length_map]; rfl
  | s2b t x =>
    simp only [nlX] at hn
    simp only [opE, sh_odS fr hn]
    cases odS fr x with
    | none => rfl
    | some v =>
      cases v <;> try rfl
      rename_i s
      simp only [Option.map_some, shR, shV, shS, sh_len, ← sh_app, shO, sh_strCells]

/-! ### Code -/
def CallSh (pre : LH) (call : CallE) : Prop := ∀ f args h r, call f args h = some r → call f (shVs pre.length args) (shH pre h) = some (shR pre r)

theorem call_nlX {op : EO} (h : isCall op = true) {fr : Fr} {hh : LH} (hn : nlX op = true) : calleeE (shF pre.length fr) (shH pre hh) op = (calleeE fr hh op).map fun x => (x.1, shVs pre.length x.2) := by
  cases op <;> try cases h
  · rename_i f l
    simp only [nlX] at hn
    simp only [calleeE, sh_odL fr hn, Option.map_map]
    cases odL fr l <;> rfl
  · rename_i x l
    simp only [nlX, Bool.and_eq_true] at hn
    simp only [calleeE, sh_odS fr hn.1, sh_odL fr hn.2]
    cases odS fr x with
    | none => rfl
    | some v =>
      cases v <;> try rfl
      · cases odL fr l <;> rfl
      · rename_i i
        cases odL fr l with
        | none => rfl
        | some l' =>
          simp only [Option.map_some, shS, sh_get]
          cases hh[i]? with
          | none => rfl
          | some ob =>
            cases ob <;> try rfl
            simp only [Option.map_some, shO, shVs_map, List.map_append]

theorem step_sh {call : CallE} (hc : CallSh pre call) {fr : Fr} {h : LH} {o : EO} {r : FV × LH} (hn : nlX o = true) (he : stepE call fr h o = some r) : stepE call (shF pre.length fr) (shH pre h) o = some (shR pre r) := by
  unfold stepE at he ⊢
  split at he
  · rename_i hi
    rw [if_pos hi, call_nlX hi hn]
    split at he
    · rename_i f args hq
      rw [hq]
      exact hc _ _ _ _ he
    · cases he
  · rename_i hi
    rw [if_neg hi, opE_sh h o hn, he]; rfl

theorem want_sh {k : Nat} (fr : Fr) (g : Option (Nat × Bool)) : wantE (shF k fr) g = wantE fr g := by
  cases g with
  | none => rfl
  | some x =>
    obtain ⟨s, b⟩ := x
    simp only [wantE, sh_fget]
    cases fget fr s with
    | none => rfl
    | some v =>
      cases v with
      | s v => cases v <;> rfl
      | agg l => rfl
      | tup l => cases l <;> rfl

def nlG (l : List EG) : Bool := l.all fun g => nlX g.op

theorem ops_sh {call : CallE} (hc : CallSh pre call) : ∀ (l : List EG) (fr : Fr) (h : LH) (r : Fr × LH), nlG l = true → opsE call l fr h = some r → opsE call l (shF pre.length fr) (shH pre h) = some (shP pre r)
  | [], fr, h, r, _, he => by
    obtain rfl := Option.some.inj he; rfl
  | g :: l, fr, h, r, hn, he => by
    simp only [nlG, List.all_cons, Bool.and_eq_true] at hn
    simp only [opsE, want_sh] at he ⊢
    split at he
    · rename_i hw
      split at he
      · rename_i v h1 hs
        rw [step_sh hc hn.1 hs]
        have := ops_sh hc l _ _ r hn.2 he
        rw [← sh_put] at this
        exact this
      · cases he
    · rename_i hw
      have := ops_sh hc l _ _ r hn.2 he
      rw [← sh_put] at this
      exact this
    · cases he

def shT (pre : LH) (a : TE) : TE := ⟨shF pre.length a.fr, shH pre a.h, a.op, shV pre.length a.v, shH pre a.h'⟩

theorem trace_sh {call : CallE} (hc : CallSh pre call) : ∀ (l : List EG) (fr : Fr) (h : LH) (r : List (Option TE) × Fr × LH), nlG l = true → traceE call l fr h = some r → traceE call l (shF pre.length fr) (shH pre h) = some (r.1.map (Option.map (shT pre)), shP pre r.2) ∧ ∀ a, some a ∈ r.1 → nlX a.op = true
  | [], fr, h, r, _, he => by
    obtain rfl := Option.some.inj he; exact ⟨rfl, fun a ha => by cases ha⟩
  | g :: l, fr, h, r, hn, he => by
    simp only [nlG, List.all_cons, Bool.and_eq_true] at hn
    simp only [traceE, sh_keep, want_sh] at he ⊢
    split at he
    · rename_i hw
      split at he
      · rename_i v h1 hs
        obtain ⟨x, hx, rfl⟩ := Option.map_eq_some_iff.1 he
        obtain ⟨q1, q2⟩ := trace_sh hc l _ _ x hn.2 hx
        rw [← sh_put] at q1
        rw [step_sh hc hn.1 hs]
        refine ⟨?_, fun a ha => ?_⟩
        · show ((traceE call l (fput (shF pre.length fr) g.dst (some (shV pre.length v))) (shH pre h1)).map _) = _
          rw [show traceE call l (fput (shF pre.length fr) g.dst (some (shV pre.length v))) (shH pre h1) = _ from q1]
          rfl
        · rcases List.mem_cons.1 ha with ha | ha
          · obtain rfl := Option.some.inj ha; exact hn.1
          · exact q2 a ha
      · cases he
    · rename_i hw
      obtain ⟨x, hx, rfl⟩ := Option.map_eq_some_iff.1 he
      obtain ⟨q1, q2⟩ := trace_sh hc l _ _ x hn.2 hx
      rw [← sh_put] at q1
      refine ⟨?_, fun a ha => ?_⟩
      · show ((traceE call l (fput (shF pre.length fr) g.dst (some (.tup []))) (shH pre h)).map _) = _
        rw [show traceE call l (fput (shF pre.length fr) g.dst (some (.tup []))) (shH pre h) = _ from q1]
        rfl
      · rcases List.mem_cons.1 ha with ha | ha
        · cases ha
        · exact q2 a ha
    · cases he

theorem rdO_sh {k : Nat} (fr : Fr) (op : EO) (hn : nlX op = true) : rdO (shF k fr) op = (rdO fr op).map (k + ·) := by
  cases op <;> try rfl
  all_goals
    simp only [nlX, Bool.and_eq_true] at hn
    first
      | (simp only [rdO, sh_odS fr hn]
         generalize odS fr _ = q
         cases q with
         | none => rfl
         | some v => cases v <;> rfl)
      | (simp only [rdO, sh_odS fr hn.1]
         generalize odS fr _ = q
         cases q with
         | none => rfl
         | some v => cases v <;> rfl)
      | (simp only [rdO, sh_odS fr hn.1.1]
         generalize odS fr _ = q
         cases q with
         | none => rfl
         | some v => cases v <;> rfl)
      | (simp only [rdO, sh_odS fr hn.1.2]
         generalize odS fr _ = q
         cases q with
         | none => rfl
         | some v => cases v <;> rfl)

theorem sh_nmS {k n : Nat} {v : SV} (h : nmS (· < n) v) : nmS (· < k + n) (shS k v) := by
  cases v <;> first | trivial | (simp only [shS, nmS] at h ⊢; omega)
theorem sh_nmL {k n : Nat} : ∀ {l : List SV}, nmL (· < n) l → nmL (· < k + n) (l.map (shS k))
  | [], _ => trivial
  | v :: r, h => ⟨sh_nmS h.1, sh_nmL h.2⟩
mutual
theorem sh_nmV {k n : Nat} : ∀ {v : FV}, nmV (· < n) v → nmV (· < k + n) (shV k v)
  | .s v, h => sh_nmS h
  | .agg l, h => sh_nmL h
  | .tup l, h => sh_nmVL (l := l) h
theorem sh_nmVL {k n : Nat} : ∀ {l : List FV}, nmVL (· < n) l → nmVL (· < k + n) (shVs k l)
  | [], _ => trivial
  | v :: r, h => ⟨sh_nmV h.1, sh_nmVL h.2⟩
end
theorem sh_frLt {k n : Nat} : ∀ {fr : Fr}, frLt n fr → frLt (k + n) (shF k fr)
  | [], _ => trivial
  | (_, some v) :: r, h => ⟨sh_nmV h.1, sh_frLt (fr := r) h.2⟩
  | (_, none) :: r, h => sh_frLt (fr := r) h

theorem okPair_sh {call : CallE} (hc : CallSh pre call) {tr : List (Option TE)} (hn : ∀ a, some a ∈ tr → nlX a.op = true) {p : Nat × Nat} (h : okPair call tr p) : okPair call (tr.map (Option.map (shT pre))) p := by
  unfold okPair at h ⊢
  simp only [List.getElem?_map]
  cases h1 : tr[p.1]? with
  | none => rw [h1] at h; exact h.elim
  | some x =>
    cases h2 : tr[p.2]? with
    | none => rw [h1, h2] at h; cases x <;> exact h.elim
    | some y =>
      rw [h1, h2] at h
      cases x with
      | none => cases y <;> trivial
      | some a =>
        cases y with
        | none => trivial
        | some b =>
          have ha := hn a (List.mem_of_getElem? h1)
          simp only [Option.map_some, shT] at h ⊢
          rcases h with h | ⟨q1, q2, q3⟩ | ⟨q1, q2⟩
          · left; rw [h]
          · right; left
            refine ⟨step_sh hc ha q1, step_sh hc ha q2, fun hx => ?_⟩
            obtain ⟨e, f⟩ := q3 hx
            rw [e, sh_len]
            exact ⟨rfl, sh_frLt f⟩
          · right; right
            refine ⟨q1, ?_⟩
            unfold rdAft at q2 ⊢
            rw [rdO_sh _ _ ha, sh_len]
            cases hr : rdO a.fr a.op with
            | none => rw [hr] at q2; exact q2
            | some i =>
              rw [hr] at q2
              exact Nat.add_le_add_left q2 _

theorem okPairs_sh {call : CallE} (hc : CallSh pre call) {tr : List (Option TE)} (hn : ∀ a, some a ∈ tr → nlX a.op = true) : ∀ {l : List (Nat × Nat)}, okPairs call tr l → okPairs call (tr.map (Option.map (shT pre))) l
  | [], _ => trivial
  | p :: l, h => ⟨okPair_sh hc hn h.1, okPairs_sh hc hn h.2⟩

theorem draw_sh {call : CallE} (hc : CallSh pre call) {l : List EG} {ps : List (Nat × Nat)} {fr : Fr} {h : LH} {r : Fr × LH} (hn : nlG l = true) (he : drawE call l ps fr h = some r) : drawE call l ps (shF pre.length fr) (shH pre h) = some (shP pre r) := by
  unfold drawE at he ⊢
  split at he
  · rename_i tr fr1 h1 ht
    obtain ⟨q1, q2⟩ := trace_sh hc l fr h _ hn ht
    rw [q1]
    split at he
    · rename_i hp
      obtain rfl := Option.some.inj he
      simp only [shP]
      rw [if_pos (okPairs_sh hc q2 hp)]
    · cases he
  · cases he

def GSh (g : List FV → LH → Option (List FV × LH)) : Prop := ∀ pre args h vs h', g args h = some (vs, h') → g (shVs pre.length args) (shH pre h) = some (shVs pre.length vs, shH pre h')

def nlC : EC → Prop
  | .ops l _ => nlG l = true
  | .draw l _ _ => nlG l = true
  | .seq a b => nlC a ∧ nlC b
  | .cond c a b => nlD c = true ∧ nlC a ∧ nlC b
  | .block _ b => nlC b
  | .loop _ b => nlC b
  | .scope b => nlC b
  | .ext _ _ g => GSh g
  | _ => True
def nlCB : EC → Bool
  | .ops l _ => nlG l
  | .draw l _ _ => nlG l
  | .seq a b => nlCB a && nlCB b
  | .cond c a b => nlD c && nlCB a && nlCB b
  | .block _ b => nlCB b
  | .loop _ b => nlCB b
  | .scope b => nlCB b
  | .ext _ _ _ => false
  | _ => true
theorem nlCB_ok : ∀ {e : EC}, nlCB e = true → nlC e := by
  intro e
  induction e with
  | seq a b iha ihb => intro h; simp only [nlCB, Bool.and_eq_true] at h; exact ⟨iha h.1, ihb h.2⟩
  | cond c a b iha ihb => intro h; simp only [nlCB, Bool.and_eq_true] at h; exact ⟨h.1.1, iha h.1.2, ihb h.2⟩
  | block _ b ih => intro h; exact ih h
  | loop _ b ih => intro h; exact ih h
  | scope b ih => intro h; exact ih h
  | ops l _ => intro h; exact h
  | draw l _ _ => intro h; exact h
  | ext _ _ _ => intro h; cases h
  | _ => intro _; trivial

def shX (pre : LH) (r : Ex × Fr × LH) : Ex × Fr × LH := (r.1, shF pre.length r.2.1, shH pre r.2.2)

theorem loop_sh {b : Fr → LH → Out} (hb : ∀ fr h r, b fr h = some r → b (shF pre.length fr) (shH pre h) = some (shX pre r)) {keep : List Nat} : ∀ (n : Nat) (fr : Fr) (h : LH) (r : Ex × Fr × LH), loopN b keep n fr h = some r → loopN b keep n (shF pre.length fr) (shH pre h) = some (shX pre r)
  | 0, _, _, _, he => by cases he
  | n + 1, fr, h, r, he => by
    simp only [loopN, sh_keep] at he ⊢
    split at he
    · rename_i fr' h' h1
      rw [hb _ _ _ h1]
      exact loop_sh hb n _ _ _ he
    · rename_i hne
      rw [hb _ _ _ he]
      split
      · rename_i fr' h' hq
        have hq := Option.some.inj hq
        obtain ⟨x, f, g⟩ := r
        simp only [shX, Prod.mk.injEq] at hq
        obtain ⟨rfl, -, -⟩ := hq
        exact absurd he (hne _ _)
      · rfl

theorem scope_sh {at' : Nat → Fr → LH → Out} (ha : ∀ l fr h r, at' l fr h = some r → at' l (shF pre.length fr) (shH pre h) = some (shX pre r)) (has : Nat → Bool) : ∀ (n : Nat) (x r : Ex × Fr × LH), scopeN at' has n (some x) = some r → scopeN at' has n (some (shX pre x)) = some (shX pre r) := by
  intro n
  induction n with
  | zero =>
    intro x r he
    obtain ⟨x, f, g⟩ := x
    cases x with
    | goto l =>
      simp only [shX]
      unfold scopeN at he ⊢
      simp only at he ⊢
      split at he
      · cases he
      · rename_i hl
        rw [if_neg hl]
        obtain rfl := Option.some.inj he; rfl
    | _ =>
      unfold scopeN at he ⊢
      obtain rfl := Option.some.inj he; rfl
  | succ n ih =>
    intro x r he
    obtain ⟨x, f, g⟩ := x
    cases x with
    | goto l =>
      simp only [shX]
      unfold scopeN at he ⊢
      simp only at he ⊢
      split at he
      · rename_i hl
        rw [if_pos hl]
        cases hr : at' l f g with
        | none => rw [hr] at he; unfold scopeN at he; cases he
        | some y =>
          rw [hr] at he
          rw [ha _ _ _ _ hr]
          exact ih y r he
      · rename_i hl
        rw [if_neg hl]
        obtain rfl := Option.some.inj he; rfl
    | _ =>
      unfold scopeN at he ⊢
      obtain rfl := Option.some.inj he; rfl

theorem sh_init {k : Nat} : ∀ (n : Nat) (l : List FV), initE n (shVs k l) = shF k (initE n l)
  | n, [] => rfl
  | n, v :: r => by simp only [shVs, initE, sh_init (n + 1) r]; rfl
theorem sh_args {k : Nat} (fr : Fr) : ∀ (n i : Nat), argsF (shF k fr) i n = (argsF fr i n).map (shVs k)
  | 0, i => rfl
  | n + 1, i => by
    simp only [argsF, sh_fget, sh_args fr n (i + 1)]
    cases fget fr i with
    | none => rfl
    | some v => cases argsF fr (i + 1) n <;> rfl

theorem code_sh {call : CallE} (hc : CallSh pre call) {n : Nat} : ∀ (e : EC), nlC e → (∀ (fr : Fr) (h : LH) (r : Ex × Fr × LH), codeE call n e fr h = some r → codeE call n e (shF pre.length fr) (shH pre h) = some (shX pre r)) ∧ ∀ (l : Nat) (fr : Fr) (h : LH) (r : Ex × Fr × LH), codeAt call n e l fr h = some r → codeAt call n e l (shF pre.length fr) (shH pre h) = some (shX pre r) := by
  intro e
  induction e with
  | skip =>
    intro _
    refine ⟨?_, fun l fr h r he => by simp only [codeAt] at he; cases he⟩
    intro fr h r he
    simp only [codeE] at he ⊢
    obtain rfl := Option.some.inj he; rfl
  | label l' =>
    intro _
    refine ⟨fun fr h r he => ?_, fun l fr h r he => ?_⟩
    · simp only [codeE] at he ⊢
      obtain rfl := Option.some.inj he; rfl
    · simp only [codeAt] at he ⊢
      split at he
      · rename_i hl
        rw [if_pos hl]
        obtain rfl := Option.some.inj he; rfl
      · cases he
  | ops l keep =>
    intro hn
    refine ⟨?_, fun l fr h r he => by simp only [codeAt] at he; cases he⟩
    intro fr h r he
    simp only [codeE] at he ⊢
    obtain ⟨x, hx, rfl⟩ := Option.map_eq_some_iff.1 he
    rw [ops_sh hc _ _ _ _ hn hx]
    simp only [Option.map_some, shX, shP, sh_keep]
  | draw l ps keep =>
    intro hn
    refine ⟨?_, fun l fr h r he => by simp only [codeAt] at he; cases he⟩
    intro fr h r he
    simp only [codeE] at he ⊢
    obtain ⟨x, hx, rfl⟩ := Option.map_eq_some_iff.1 he
    rw [draw_sh hc hn hx]
    simp only [Option.map_some, shX, shP, sh_keep]
  | seq a b iha ihb =>
    intro hn
    have iha := iha hn.1
    have ihb := ihb hn.2
    refine ⟨fun fr h r he => ?_, fun l fr h r he => ?_⟩
    · simp only [codeE] at he ⊢
      split at he
      · rename_i fr' h' h1
        rw [iha.1 _ _ _ h1]; exact ihb.1 _ _ _ he
      · rename_i hne
        rw [iha.1 _ _ _ he]
        obtain ⟨x, f, g⟩ := r
        cases x <;> first | rfl | exact absurd he (hne _ _)
    · simp only [codeAt] at he ⊢
      split at he
      · rename_i hl
        rw [if_pos hl]
        split at he
        · rename_i fr' h' h1
          rw [iha.2 _ _ _ _ h1]; exact ihb.1 _ _ _ he
        · rename_i hne
          rw [iha.2 _ _ _ _ he]
          obtain ⟨x, f, g⟩ := r
          cases x <;> first | rfl | exact absurd he (hne _ _)
      · rename_i hl
        rw [if_neg hl]; exact ihb.2 _ _ _ _ he
  | cond x a b iha ihb =>
    intro hn
    have iha := iha hn.2.1
    have ihb := ihb hn.2.2
    refine ⟨?_, fun l fr h r he => by simp only [codeAt] at he; cases he⟩
    intro fr h r he
    simp only [codeE, sh_odS fr hn.1] at he ⊢
    split at he
    · rename_i t ht
      rw [ht]
      cases t with
      | true => exact iha.1 _ _ _ he
      | false => exact ihb.1 _ _ _ he
    · cases he
  | block id b ih =>
    intro hn
    have ih := ih hn
    refine ⟨?_, fun l fr h r he => by simp only [codeAt] at he; cases he⟩
    intro fr h r he
    simp only [codeE] at he ⊢
    split at he
    · rename_i id' fr' h' h1
      rw [ih.1 _ _ _ h1]
      simp only [shX]
      split at he
      · rename_i hi
        rw [if_pos hi]
        obtain rfl := Option.some.inj he; rfl
      · rename_i hi
        rw [if_neg hi]
        obtain rfl := Option.some.inj he; rfl
    · rename_i hne
      rw [ih.1 _ _ _ he]
      obtain ⟨x, f, g⟩ := r
      cases x <;> first | rfl | exact absurd he (hne _ _ _)
  | loop keep b ih =>
    intro hn
    have ih := ih hn
    refine ⟨?_, fun l fr h r he => by simp only [codeAt] at he; cases he⟩
    intro fr h r he
    simp only [codeE] at he ⊢
    exact loop_sh ih.1 n _ _ _ he
  | exit id keep =>
    intro _
    refine ⟨?_, fun l fr h r he => by simp only [codeAt] at he; cases he⟩
    intro fr h r he
    simp only [codeE, sh_keep] at he ⊢
    obtain rfl := Option.some.inj he; rfl
  | ret keep =>
    intro _
    refine ⟨?_, fun l fr h r he => by simp only [codeAt] at he; cases he⟩
    intro fr h r he
    simp only [codeE, sh_keep] at he ⊢
    obtain rfl := Option.some.inj he; rfl
  | goto l keep =>
    intro _
    refine ⟨?_, fun l fr h r he => by simp only [codeAt] at he; cases he⟩
    intro fr h r he
    simp only [codeE, sh_keep] at he ⊢
    obtain rfl := Option.some.inj he; rfl
  | scope b ih =>
    intro hn
    have ih := ih hn
    refine ⟨?_, fun l fr h r he => by simp only [codeAt] at he; cases he⟩
    intro fr h r he
    simp only [codeE] at he ⊢
    cases hr : codeE call n b fr h with
    | none => rw [hr] at he; unfold scopeN at he; cases he
    | some y =>
      rw [hr] at he
      rw [ih.1 _ _ _ hr]
      exact scope_sh ih.2 _ n y r he
  | ext q m g =>
    intro hn
    refine ⟨?_, fun l fr h r he => by simp only [codeAt] at he; cases he⟩
    intro fr h r he
    simp only [codeE, extE, sh_args] at he ⊢
    cases ha : argsF fr 0 q with
    | none => rw [ha] at he; cases he
    | some args =>
      rw [ha] at he
      simp only [Option.map_some, Option.bind_some] at he ⊢
      cases hg : g args h with
      | none => rw [hg] at he; cases he
      | some y =>
        obtain ⟨vs, h'⟩ := y
        rw [hg] at he
        rw [hn pre args h vs h' hg]
        simp only [shVs_map, List.length_map, sh_len] at he ⊢
        split at he
        · rename_i hl
          rw [if_pos hl]
          split at he
          · rename_i hle
            rw [if_pos (by omega)]
            obtain rfl := Option.some.inj he
            simp only [shX, ← shVs_map, sh_init]
          · cases he
        · cases he

theorem sh_res {fr : Fr} {h : LH} (r : ER) : resE (shF pre.length fr) (shH pre h) r = (resE fr h r).map (shV pre.length) := by
  cases r with
  | tmp t => exact sh_fget fr t
  | cell t g n =>
    simp only [resE]
    rw [opE_sh h (.load g n (.t t)) rfl]
    cases opE fr h (.load g n (.t t)) <;> rfl
theorem sh_ress {fr : Fr} {h : LH} : ∀ l : List ER, ressE (shF pre.length fr) (shH pre h) l = (ressE fr h l).map (shVs pre.length)
  | [] => rfl
  | r :: l => by
    simp only [ressE, sh_res, sh_ress l]
    cases resE fr h r with
    | none => rfl
    | some v => cases ressE fr h l <;> rfl
theorem sh_pack {h : LH} (l : Option (List FV)) : packL (l.map (shVs pre.length)) (shH pre h) = (packL l h).map (shR pre) := by
  cases l with
  | none => rfl
  | some l =>
    simp only [Option.map_some, packL, sh_flat1]
    split
    · cases l with
      | nil => rfl
      | cons a r => cases r <;> rfl
    · rfl

/-- All the functions' constants name no object. -/
def TabSh (C : Nat → Option EF) : Prop := ∀ f e, C f = some e → nlC e.body

theorem callE_sh {C : Nat → Option EF} (hC : TabSh C) (pre : LH) : ∀ n, CallSh pre (callE C n)
  | 0 => fun f args h r he => by cases he
  | n + 1 => fun f args h r he => by
    rw [callE] at he ⊢
    split at he
    · cases he
    · rename_i e hf
      have hl : (shVs pre.length args).length = args.length := by rw [shVs_map, List.length_map]
      rw [hl, sh_init]
      split at he
      · rename_i hle
        rw [if_pos hle]
        split at he
        · rename_i fr h1 h2
          rw [((code_sh (callE_sh hC pre n) _ (hC f e hf)).1 _ _ _ h2)]
          simp only [shX, sh_ress, sh_pack, he, Option.map_some]
        · rename_i fr h1 h2
          rw [((code_sh (callE_sh hC pre n) _ (hC f e hf)).1 _ _ _ h2)]
          simp only [shX, sh_ress, sh_pack, he, Option.map_some]
        · cases he
      · cases he

theorem callX_sh {C : Nat → Option EF} (hC : TabSh C) (pre : LH) {f : Nat} {args : List FV} {h : LH} {v : FV} {h' : LH} (he : callX C f args h = some (v, h')) : callX C f (shVs pre.length args) (shH pre h) = some (shV pre.length v, shH pre h') := by
  obtain ⟨n, hn⟩ := callX_some he
  exact callX_of (callE_sh hC pre n _ _ _ _ (hn n (Nat.le_refl _)))

/-- A call of no arguments, from any heap. -/
theorem callX_any {C : Nat → Option EF} (hC : TabSh C) {f : Nat} {v : FV} {h' : LH} (he : callX C f [] [] = some (v, h')) (h : LH) : callX C f [] h = some (shV h.length v, shH h h') := by
  have := callX_sh hC h he
  rw [show shH h [] = h by simp [shH]] at this
  exact this
end Go.Proofs.YtiljgimcipdadaaGreatDoor.Ev
