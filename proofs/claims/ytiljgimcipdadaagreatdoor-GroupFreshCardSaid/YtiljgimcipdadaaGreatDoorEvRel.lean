/- How the small machine's objects lie in the model's memory; and that this stays so behind each kind of step. -/
import Derived.Test.YtiljgimcipdadaaGreatDoorEvComp
import Derived.Deep.MidRow
import Derived.Deep.AppendSrc
import Derived.Deep.Upon
import Derived.Deep.Draws
import Derived.Laws.NewBlocks
import Derived.Laws.World
import Derived.Lib.EndianMore
import Derived.Below
import Derived.Orders
import Derived.LoopN
set_option linter.unusedVariables false
set_option linter.unusedSimpArgs false
namespace Go.Proofs.YtiljgimcipdadaaGreatDoor.Ev
open Go Go.RowKit

/-- Where an object lies: its block, from which cell on, how many cells an element has, for how many elements there is room; or the value itself. -/
structure Ph where
  blk : Nat
  base : Nat
  sz : Nat
  cap : Nat
  val : Value

def adr (p : Ph) (prev o : Nat) : Addr := ⟨p.blk, p.base + (if p.cap ≤ o then prev else o) * p.sz, none⟩

def c0 (ρ : Nat → Ph) : SV → Value
  | .bool b => .bool b
  | .int k n => .int k n
  | .flt k b => .float k b
  | .cpl k a b => .complex k a b
  | .str s => .string s
  | .nilp => .pointer none
  | .ptr i o => .pointer (some ⟨(ρ i).blk, (ρ i).base + o, none⟩)
  | .nils => .slice none 0 0
  | .sl i p o n => .slice (some (adr (ρ i) p o)) n ((ρ i).cap - o)
  | .sl0 i p o => .slice (some (adr (ρ i) p o)) 0 0
  | .nilm => .map none
  | .mp i => .map (some (ρ i).blk)
  | .nilf => .nilFunc
  | .fn f => .func (.func f) #[] #[]
  | .cl i => (ρ i).val
  | .nili => .nilIface
  | .iv i => (ρ i).val

def c1 (ρ : Nat → Ph) : FV → Value
  | .s v => c0 ρ v
  | .agg l => .agg (l.map (c0 ρ)).toArray
  | .tup _ => undef

def cv (ρ : Nat → Ph) : FV → Value
  | .tup l => .tuple (l.map (c1 ρ)).toArray
  | .s v => c0 ρ v
  | .agg l => .agg (l.map (c0 ρ)).toArray

/-- A value speaks of objects that are there, and of no more elements than there is room for. -/
def wf (ρ : Nat → Ph) (n : Nat) : SV → Prop
  | .ptr i _ => i < n
  | .sl i _ o m => i < n ∧ o + m ≤ (ρ i).cap
  | .sl0 i _ _ => i < n
  | .mp i => i < n
  | .cl i => i < n ∧ (ρ i).val.oneCell' = true
  | .iv i => i < n ∧ (ρ i).val.oneCell' = true
  | _ => True

def wf1 (ρ : Nat → Ph) (n : Nat) : FV → Prop
  | .s v => wf ρ n v
  | .agg l => ∀ v ∈ l, wf ρ n v
  | .tup _ => False

def wfV (ρ : Nat → Ph) (n : Nat) : FV → Prop
  | .s v => wf ρ n v
  | .agg l => ∀ v ∈ l, wf ρ n v
  | .tup l => ∀ v ∈ l, wf1 ρ n v

theorem wfV_of_wf1 {ρ : Nat → Ph} {n : Nat} {v : FV} (h : wf1 ρ n v) : wfV ρ n v := by
  cases v with
  | s v => exact h
  | agg l => exact h
  | tup l => exact h.elim

theorem cv_of_wf1 {ρ : Nat → Ph} {n : Nat} {v : FV} (h : wf1 ρ n v) : cv ρ v = c1 ρ v := by
  cases v with
  | s v => rfl
  | agg l => rfl
  | tup l => exact h.elim

/-- The later placing says the same of the first n objects. -/
def Ext (n : Nat) (ρ ρ' : Nat → Ph) : Prop := ∀ i, i < n → ρ' i = ρ i

theorem Ext.refl (n : Nat) (ρ : Nat → Ph) : Ext n ρ ρ := fun _ _ => rfl
theorem Ext.trans {n m : Nat} {ρ ρ' ρ'' : Nat → Ph} (h : Ext n ρ ρ') (hm : n ≤ m) (h' : Ext m ρ' ρ'') : Ext n ρ ρ'' := fun i hi => (h' i (by omega)).trans (h i hi)

theorem c0_ext {n : Nat} {ρ ρ' : Nat → Ph} (h : Ext n ρ ρ') {v : SV} (hv : wf ρ n v) : c0 ρ' v = c0 ρ v := by
  cases v <;> simp only [c0] <;> simp only [wf] at hv <;> first
    | rfl
    | rw [h _ hv]
    | rw [h _ hv.1]

theorem wf_ext {n m : Nat} {ρ ρ' : Nat → Ph} (h : Ext n ρ ρ') (hm : n ≤ m) {v : SV} (hv : wf ρ n v) : wf ρ' m v := by
  cases v <;> simp only [wf] at hv ⊢ <;> first
    | omega
    | (refine ⟨by omega, ?_⟩; rw [h _ hv.1]; exact hv.2)

theorem map_c0_ext {n : Nat} {ρ ρ' : Nat → Ph} (h : Ext n ρ ρ') {l : List SV} (hv : ∀ v ∈ l, wf ρ n v) : l.map (c0 ρ') = l.map (c0 ρ) :=
  List.map_congr_left fun v hm => c0_ext h (hv v hm)

theorem c1_ext {n : Nat} {ρ ρ' : Nat → Ph} (h : Ext n ρ ρ') {v : FV} (hv : wf1 ρ n v) : c1 ρ' v = c1 ρ v := by
  cases v with
  | s v => exact c0_ext h hv
  | agg l => simp only [c1]; rw [map_c0_ext h hv]
  | tup l => rfl

theorem wf1_ext {n m : Nat} {ρ ρ' : Nat → Ph} (h : Ext n ρ ρ') (hm : n ≤ m) {v : FV} (hv : wf1 ρ n v) : wf1 ρ' m v := by
  cases v with
  | s v => exact wf_ext h hm hv
  | agg l => exact fun v hl => wf_ext h hm (hv v hl)
  | tup l => exact hv.elim

theorem cv_ext {n : Nat} {ρ ρ' : Nat → Ph} (h : Ext n ρ ρ') {v : FV} (hv : wfV ρ n v) : cv ρ' v = cv ρ v := by
  cases v with
  | s v => exact c0_ext h hv
  | agg l => simp only [cv]; rw [map_c0_ext h hv]
  | tup l =>
    simp only [cv]
    rw [List.map_congr_left fun v hm => c1_ext h (hv v hm)]

theorem wfV_ext {n m : Nat} {ρ ρ' : Nat → Ph} (h : Ext n ρ ρ') (hm : n ≤ m) {v : FV} (hv : wfV ρ n v) : wfV ρ' m v := by
  cases v with
  | s v => exact wf_ext h hm hv
  | agg l => exact fun v hl => wf_ext h hm (hv v hl)
  | tup l => exact fun v hl => wf1_ext h hm (hv v hl)

theorem c0_one {ρ : Nat → Ph} {n : Nat} {v : SV} (hv : wf ρ n v) : (c0 ρ v).oneCell' = true := by
  cases v <;> first
    | rfl
    | exact hv.2

/-! ### Constants -/
theorem absS_c0 {v : Value} {x : SV} (h : absS v = some x) (ρ : Nat → Ph) : c0 ρ x = v := by
  unfold absS at h
  split at h <;> first
    | (obtain rfl := Option.some.inj h; rfl)
    | (cases h; done)
    | (rename_i f a b
       split at h
       · rename_i ha
         split at h
         · rename_i hb
           obtain rfl := Option.some.inj h
           rw [Array.eq_empty_of_size_eq_zero ha, Array.eq_empty_of_size_eq_zero hb]; rfl
         · cases h
       · cases h)

theorem absS_wf {v : Value} {x : SV} (h : absS v = some x) (ρ : Nat → Ph) (n : Nat) : wf ρ n x := by
  unfold absS at h
  split at h <;> first
    | (obtain rfl := Option.some.inj h; exact trivial)
    | (cases h; done)
    | (split at h
       · split at h
         · obtain rfl := Option.some.inj h; exact trivial
         · cases h
       · cases h)

theorem absL_c0 : ∀ {l : List Value} {xs : List SV}, absL l = some xs → ∀ ρ : Nat → Ph, xs.map (c0 ρ) = l
  | [], xs, h, ρ => by simp only [absL, Option.some.injEq] at h; subst h; rfl
  | v :: r, xs, h, ρ => by
    simp only [absL] at h
    split at h
    · rename_i x hx
      obtain ⟨ys, hy, rfl⟩ := Option.map_eq_some_iff.1 h
      simp only [List.map_cons]
      rw [absS_c0 hx, absL_c0 hy]
    · cases h

theorem absL_wf : ∀ {l : List Value} {xs : List SV}, absL l = some xs → ∀ (ρ : Nat → Ph) (n : Nat), ∀ v ∈ xs, wf ρ n v
  | [], xs, h, ρ, n => by simp only [absL, Option.some.injEq] at h; subst h; simp
  | v :: r, xs, h, ρ, n => by
    simp only [absL] at h
    split at h
    · rename_i x hx
      obtain ⟨ys, hy, rfl⟩ := Option.map_eq_some_iff.1 h
      intro u hu
      rcases List.mem_cons.1 hu with rfl | hu
      · exact absS_wf hx ρ n
      · exact absL_wf hy ρ n u hu
    · cases h

theorem absV_cv {v : Value} {x : FV} (h : absV v = some x) (ρ : Nat → Ph) : cv ρ x = v := by
  unfold absV at h
  split at h
  · rename_i cs
    obtain ⟨l, hl, rfl⟩ := Option.map_eq_some_iff.1 h
    simp only [cv]
    rw [absL_c0 hl]
  · obtain ⟨l, hl, rfl⟩ := Option.map_eq_some_iff.1 h
    exact absS_c0 hl ρ

theorem absV_wf {v : Value} {x : FV} (h : absV v = some x) (ρ : Nat → Ph) (n : Nat) : wf1 ρ n x := by
  unfold absV at h
  split at h
  · rename_i cs
    obtain ⟨l, hl, rfl⟩ := Option.map_eq_some_iff.1 h
    exact absL_wf hl ρ n
  · obtain ⟨l, hl, rfl⟩ := Option.map_eq_some_iff.1 h
    exact absS_wf hl ρ n

/-! ### A frame's slots -/
structure FrR (ρ : Nat → Ph) (n N : Nat) (fr : Fr) (a : Act) : Prop where
  size : a.tmps.size = N
  defers : a.defers = []
  get : ∀ t v, fget fr t = some v → t < N ∧ a.tmps.getD t undef = cv ρ v ∧ wfV ρ n v

theorem FrR.ext {ρ ρ' : Nat → Ph} {n m N : Nat} {fr : Fr} {a : Act} (h : FrR ρ n N fr a) (he : Ext n ρ ρ') (hm : n ≤ m) : FrR ρ' m N fr a :=
  ⟨h.size, h.defers, fun t v hv => by
    obtain ⟨h1, h2, h3⟩ := h.get t v hv
    exact ⟨h1, h2.trans (cv_ext he h3).symm, wfV_ext he hm h3⟩⟩

theorem getD_set_self {xs : Array Value} {d : Nat} {v : Value} (h : d < xs.size) : (xs.setIfInBounds d v).getD d undef = v := by
  simp [Array.getD_eq_getD_getElem?, Array.getElem?_setIfInBounds, h]

theorem getD_set_ne {xs : Array Value} {d t : Nat} {v : Value} (h : d ≠ t) : (xs.setIfInBounds d v).getD t undef = xs.getD t undef := by
  simp [Array.getD_eq_getD_getElem?, Array.getElem?_setIfInBounds, h]

theorem FrR.put {ρ : Nat → Ph} {n N : Nat} {fr : Fr} {a : Act} (h : FrR ρ n N fr a) {d : Option Nat} (hd : ∀ t, d = some t → t < N) {v : FV} (hv : wfV ρ n v) :
    FrR ρ n N (fput fr d (some v)) (a.put d (cv ρ v)) := by
  cases d with
  | none => exact h
  | some t =>
    have ht := hd t rfl
    refine ⟨by simp [Act.put, h.size], h.defers, fun u x hx => ?_⟩
    simp only [fput, fget] at hx
    by_cases e : u = t
    · subst e
      rw [if_pos rfl] at hx
      obtain rfl := Option.some.inj hx
      exact ⟨ht, getD_set_self (by rw [h.size]; exact ht), hv⟩
    · rw [if_neg e] at hx
      obtain ⟨h1, h2, h3⟩ := h.get u x hx
      exact ⟨h1, (getD_set_ne (Ne.symm e)).trans h2, h3⟩

theorem FrR.drop {ρ : Nat → Ph} {n N : Nat} {fr : Fr} {a : Act} (h : FrR ρ n N fr a) (d : Option Nat) (x : Value) : FrR ρ n N (fput fr d none) (a.put d x) := by
  cases d with
  | none => exact h
  | some t =>
    refine ⟨by simp [Act.put, h.size], h.defers, fun u y hx => ?_⟩
    simp only [fput, fget] at hx
    by_cases e : u = t
    · rw [if_pos e] at hx; cases hx
    · rw [if_neg e] at hx
      obtain ⟨h1, h2, h3⟩ := h.get u y hx
      exact ⟨h1, (getD_set_ne (Ne.symm e)).trans h2, h3⟩

theorem fget_keep {fr : Fr} {keep : List Nat} {t : Nat} {v : FV} (h : fget (keepF keep fr) t = some v) : fget fr t = some v := by
  induction keep with
  | nil => cases h
  | cons k r ih =>
    simp only [keepF, List.map_cons, fget] at h
    by_cases e : t = k
    · rw [if_pos e] at h; rw [e]; exact h
    · rw [if_neg e] at h; exact ih h

theorem FrR.keep {ρ : Nat → Ph} {n N : Nat} {fr : Fr} {a : Act} (h : FrR ρ n N fr a) (keep : List Nat) : FrR ρ n N (keepF keep fr) a :=
  ⟨h.size, h.defers, fun t v hv => h.get t v (fget_keep hv)⟩

theorem od_sound {ρ : Nat → Ph} {n N : Nat} {fr : Fr} {a : Act} (h : FrR ρ n N fr a) {x : Operand} {y : OD} (hc : compOD x = some y) {v : FV} (hv : odE fr y = some v) : a.eval x = cv ρ v ∧ wfV ρ n v := by
  cases x with
  | tmp t =>
    simp only [compOD, Option.some.injEq] at hc
    subst hc
    obtain ⟨_, h2, h3⟩ := h.get t v hv
    exact ⟨h2, h3⟩
  | const u =>
    obtain ⟨z, hz, rfl⟩ := Option.map_eq_some_iff.1 hc
    simp only [odE, Option.some.injEq] at hv
    subst hv
    exact ⟨(absV_cv hz ρ).symm, wfV_of_wf1 (absV_wf hz ρ n)⟩
  | global g => cases hc
  | func f =>
    simp only [compOD, Option.some.injEq] at hc
    subst hc
    simp only [odE, Option.some.injEq] at hv
    subst hv
    exact ⟨rfl, trivial⟩

theorem odS_some {fr : Fr} {y : OD} {v : SV} (h : odS fr y = some v) : odE fr y = some (.s v) := by
  unfold odS at h
  split at h
  · rename_i u hu; obtain rfl := Option.some.inj h; exact hu
  · cases h

theorem ods_sound {ρ : Nat → Ph} {n N : Nat} {fr : Fr} {a : Act} (h : FrR ρ n N fr a) {x : Operand} {y : OD} (hc : compOD x = some y) {v : SV} (hv : odS fr y = some v) : a.eval x = c0 ρ v ∧ wf ρ n v :=
  od_sound h hc (odS_some hv)

/-! ### The objects -/
/-- Does an object hold a block of its own? -/
def LO.holds : LO → Bool
  | .own _ _ => true
  | .map _ => true
  | .iter _ _ => true
  | _ => false

/-- Objects whose block is no row of cells. -/
def LO.whole : LO → Bool
  | .map _ => true
  | .iter _ _ => true
  | _ => false

theorem isKey_nl {v : SV} (h : ∃ q, isKey q v = true) : nlS v = true := by
  obtain ⟨q, h⟩ := h
  cases v <;> first | rfl | cases h
theorem nl_c0 {ρ ρ' : Nat → Ph} {v : SV} (h : nlS v = true) : c0 ρ' v = c0 ρ v := by cases v <;> first | rfl | cases h
theorem nl_wf {ρ : Nat → Ph} {n : Nat} {v : SV} (h : nlS v = true) : wf ρ n v := by cases v <;> first | trivial | cases h
theorem nl_map {ρ ρ' : Nat → Ph} {es : List (SV × SV)} (h : ∀ x ∈ es, (∃ q, isKey q x.1 = true) ∧ nlS x.2 = true) : (es.map fun x => (c0 ρ' x.1, c0 ρ' x.2)) = es.map fun x => (c0 ρ x.1, c0 ρ x.2) :=
  List.map_congr_left fun x hx => by rw [nl_c0 (ρ' := ρ') (ρ := ρ) (isKey_nl (h x hx).1), nl_c0 (ρ' := ρ') (ρ := ρ) (h x hx).2]

def ObjR (P : Program) (B : Nat) (ρ : Nat → Ph) (n : Nat) (p : Ph) (w : World) : LO → Prop
  | .own t vs => B ≤ p.blk ∧ p.blk < w.heap.size ∧ p.sz = P.cellsOf t ∧ w.there p.blk p.base (p.cap * p.sz) ∧ w.rangeAt p.blk p.base (vs.map (c0 ρ)) ∧ vs.length ≤ p.cap * p.sz ∧ ∀ v ∈ vs, wf ρ n v
  | .ro t vs => p.blk < B ∧ p.sz = P.cellsOf t ∧ w.rangeAt p.blk p.base (vs.map (c0 ρ)) ∧ ∀ v ∈ vs, wf ρ n v
  | .dead => True
  | .clo f a b => p.val = .func (.func f) (a.map (c1 ρ)).toArray (b.map (c1 ρ)).toArray ∧ (∀ v ∈ a, wf1 ρ n v) ∧ ∀ v ∈ b, wf1 ρ n v
  | .ifc t v => p.val = .iface t (c1 ρ v) ∧ wf1 ρ n v
  | .map es => B ≤ p.blk ∧ p.blk < w.heap.size ∧ (∃ ms, w.heap[p.blk]? = some (.map ms ms.size) ∧ ms.toList.map (fun e => (e.key, e.val)) = es.map (fun x => (c0 ρ x.1, c0 ρ x.2)) ∧ ms.toList.map (·.born) = List.range ms.size) ∧ ∀ x ∈ es, (∃ q, isKey q x.1 = true) ∧ nlS x.2 = true
  | .iter s pos => B ≤ p.blk ∧ p.blk < w.heap.size ∧ p.base = 0 ∧ w.heap[p.blk]? = some (.stringIter s pos)

/-- Where a run began: the world then, what was there ahead of it (below B), blocks that stay as they are. -/
structure Base where
  w : World
  B : Nat
  F : Nat → Prop

structure Rel (P : Program) (w0 : Base) (ρ : Nat → Ph) (h : LH) (w : World) : Prop where
  below : Below w0.B w0.w w
  hB : w0.B ≤ w0.w.heap.size
  keep : ∀ k, w0.F k → k < w0.w.heap.size ∧ w.heap[k]? = w0.w.heap[k]?
  out : ∀ i o, h[i]? = some o → o.holds = true → ¬ w0.F (ρ i).blk
  obj : ∀ i o, h[i]? = some o → ObjR P w0.B ρ h.length (ρ i) w o
  inj : ∀ i j o o', h[i]? = some o → h[j]? = some o' → i ≠ j → o.holds = true → o'.holds = true → (ρ i).blk ≠ (ρ j).blk

variable {P : Program} {w0 : Base}

theorem Rel.size {ρ : Nat → Ph} {h : LH} {w : World} (r : Rel P w0 ρ h w) : w0.B ≤ w.heap.size := Nat.le_trans r.hB r.below.size

/-- An object stays where it lies if its block's cells stay. -/
theorem ObjR.moved {B n m : Nat} {ρ ρ' : Nat → Ph} {p : Ph} {w w' : World} {o : LO} (h : ObjR P B ρ n p w o) (he : Ext n ρ ρ') (hm : n ≤ m) (hs : w.heap.size ≤ w'.heap.size)
    (hc : (o.holds = true ∨ p.blk < B) → ∀ j v, w.cell? ⟨p.blk, j, none⟩ = some v → w'.cell? ⟨p.blk, j, none⟩ = some v) (hf : o.holds = true → ∀ j, w'.frozen? ⟨p.blk, j, none⟩ = w.frozen? ⟨p.blk, j, none⟩) (hwh : o.whole = true → w'.heap[p.blk]? = w.heap[p.blk]?) :
    ObjR P B ρ' m p w' o := by
  cases o with
  | own t vs =>
    obtain ⟨h1, h2, h3, h4, h5, h6, h7⟩ := h
    refine ⟨h1, by omega, h3, fun j hj => ?_, fun j v hv => ?_, h6, fun v hv => wf_ext he hm (h7 v hv)⟩
    · obtain ⟨q1, q2⟩ := h4 j hj
      obtain ⟨u, hu⟩ := Option.isSome_iff_exists.1 q1
      exact ⟨by rw [hc (.inl rfl) _ u hu]; rfl, by rw [hf rfl]; exact q2⟩
    · rw [map_c0_ext he h7] at hv
      exact hc (.inl rfl) _ _ (h5 j v hv)
  | ro t vs =>
    obtain ⟨h1, h2, h3, h4⟩ := h
    refine ⟨h1, h2, fun j v hv => ?_, fun v hv => wf_ext he hm (h4 v hv)⟩
    rw [map_c0_ext he h4] at hv
    exact hc (.inr h1) _ _ (h3 j v hv)
  | dead => trivial
  | clo f a b =>
    obtain ⟨h1, h2, h3⟩ := h
    refine ⟨?_, fun v hv => wf1_ext he hm (h2 v hv), fun v hv => wf1_ext he hm (h3 v hv)⟩
    rw [h1, List.map_congr_left fun v hv => c1_ext he (h2 v hv), List.map_congr_left fun v hv => c1_ext he (h3 v hv)]
  | ifc t v =>
    obtain ⟨h1, h2⟩ := h
    exact ⟨by rw [h1, c1_ext he h2], wf1_ext he hm h2⟩
  | map es =>
    obtain ⟨h1, h2, ⟨ms, h3, h4, h6⟩, h5⟩ := h
    exact ⟨h1, by omega, ⟨ms, by rw [hwh rfl]; exact h3, by rw [h4]; exact (nl_map h5).symm, h6⟩, h5⟩
  | iter s p =>
    obtain ⟨h1, h2, h3, h4⟩ := h
    exact ⟨h1, by omega, h3, by rw [hwh rfl]; exact h4⟩

/-- The world may have drawn. -/
theorem Rel.drewN {ρ : Nat → Ph} {h : LH} {w : World} (r : Rel P w0 ρ h w) (k : Nat) : Rel P w0 ρ h (w.drewN k) :=
  ⟨⟨r.below.os, r.below.tape, r.below.output, r.below.size, r.below.block⟩, r.hB, r.keep, r.out, fun i o hi => (r.obj i o hi).moved (Ext.refl _ _) (Nat.le_refl _) (Nat.le_refl _) (fun _ _ _ hv => hv) (fun _ _ => rfl) (fun _ => rfl), r.inj⟩

theorem Rel.drew {ρ : Nat → Ph} {h : LH} {w : World} (r : Rel P w0 ρ h w) : Rel P w0 ρ h w.drew := r.drewN 1

def upd (ρ : Nat → Ph) (n : Nat) (p : Ph) : Nat → Ph := fun i => if i = n then p else ρ i

theorem upd_self (ρ : Nat → Ph) (n : Nat) (p : Ph) : upd ρ n p n = p := if_pos rfl
theorem upd_ext (ρ : Nat → Ph) (n : Nat) (p : Ph) : Ext n ρ (upd ρ n p) := fun i hi => if_neg (by omega)

theorem obj_lt {h : LH} {i : Nat} {o : LO} (hi : h[i]? = some o) : i < h.length := (List.getElem?_eq_some_iff.1 hi).1

/-- An object more that holds no block. -/
theorem Rel.pseudo {ρ : Nat → Ph} {h : LH} {w : World} (r : Rel P w0 ρ h w) (p : Ph) (o : LO) (hh : o.holds = false)
    (ho : ObjR P w0.B (upd ρ h.length p) (h.length + 1) p w o) : Rel P w0 (upd ρ h.length p) (h ++ [o]) w := by
  have he := upd_ext ρ h.length p
  have key : ∀ (i : Nat) (o' : LO), (h ++ [o])[i]? = some o' → o'.holds = true → h[i]? = some o' := by
    intro i o' hi hk
    rcases Nat.lt_or_ge i h.length with hlt | hge
    · rwa [List.getElem?_append_left hlt] at hi
    · have hlt := obj_lt hi
      rw [List.length_append, List.length_singleton] at hlt
      obtain rfl : i = h.length := by omega
      rw [List.getElem?_append_right (Nat.le_refl _), Nat.sub_self] at hi
      obtain rfl := Option.some.inj hi
      rw [hh] at hk; cases hk
  refine ⟨r.below, r.hB, r.keep, fun i o' hi hk => by have a := key i o' hi hk; rw [he i (obj_lt a)]; exact r.out i o' a hk, fun i o' hi => ?_, fun i j o1 o2 hi hj hne k1 k2 => ?_⟩
  · rw [List.length_append, List.length_singleton]
    rcases Nat.lt_or_ge i h.length with hlt | hge
    · rw [List.getElem?_append_left hlt] at hi
      rw [he i hlt]
      exact (r.obj i o' hi).moved he (by omega) (Nat.le_refl _) (fun _ _ _ hv => hv) (fun _ _ => rfl) (fun _ => rfl)
    · have hlt := obj_lt hi
      rw [List.length_append, List.length_singleton] at hlt
      obtain rfl : i = h.length := by omega
      rw [List.getElem?_append_right (Nat.le_refl _), Nat.sub_self] at hi
      obtain rfl := Option.some.inj hi
      rw [upd_self]; exact ho
  · have a := key i o1 hi k1
    have b := key j o2 hj k2
    rw [he i (obj_lt a), he j (obj_lt b)]
    exact r.inj i j o1 o2 a b hne k1 k2

/-- A new block. -/
theorem Rel.alloc {ρ : Nat → Ph} {h : LH} {w : World} (r : Rel P w0 ρ h w) (t : Nat) (c : Array Value) (vs : List SV) (cap : Nat)
    (hsz : c.size = cap * P.cellsOf t) (hvs : vs.length ≤ cap * P.cellsOf t) (hc : ∀ (j : Nat) (v : SV), vs[j]? = some v → c[j]? = some (c0 ρ v)) (hw : ∀ v ∈ vs, wf ρ h.length v) :
    Rel P w0 (upd ρ h.length ⟨w.heap.size, 0, P.cellsOf t, cap, undef⟩) (h ++ [.own t vs]) (w.alloc (.cells c t)) := by
  have he := upd_ext ρ h.length ⟨w.heap.size, 0, P.cellsOf t, cap, undef⟩
  have hsize : (w.alloc (.cells c t)).heap.size = w.heap.size + 1 := by show (w.heap.push _).size = _; rw [Array.size_push]
  refine ⟨r.below.alloc r.size _, r.hB, fun k hk => ?_, fun i o' hi hk => ?_, fun i o' hi => ?_, fun i j o1 o2 hi hj hne k1 k2 => ?_⟩
  · obtain ⟨k1, k2⟩ := r.keep k hk
    refine ⟨k1, ?_⟩
    rw [← k2]
    have : k < w.heap.size := Nat.lt_of_lt_of_le k1 r.below.size
    show (w.heap.push _)[k]? = _
    rw [Array.getElem?_push_lt this, Array.getElem?_eq_getElem this]
  · rcases Nat.lt_or_ge i h.length with hlt | hge
    · rw [List.getElem?_append_left hlt] at hi
      rw [he i hlt]; exact r.out i o' hi hk
    · have hlt := obj_lt hi
      rw [List.length_append, List.length_singleton] at hlt
      obtain rfl : i = h.length := by omega
      rw [upd_self]
      intro hF
      have := (r.keep _ hF).1
      have := r.below.size
      simp only at *
      omega
  · rw [List.length_append, List.length_singleton]
    rcases Nat.lt_or_ge i h.length with hlt | hge
    · rw [List.getElem?_append_left hlt] at hi
      rw [he i hlt]
      have hlt' : (o'.holds = true ∨ (ρ i).blk < w0.B) → (ρ i).blk < w.heap.size := by
        rintro (hk | hk)
        · have := r.obj i o' hi
          cases o' <;> simp [LO.holds] at hk <;> first
            | exact this.2.1
        · have := r.size; omega
      refine (r.obj i o' hi).moved he (by omega) (by omega) (fun hk j v hv => ?_) (fun hk j => ?_) (fun hk => ?_)
      · rw [World.cell?_alloc_lt _ _ _ (hlt' hk)]; exact hv
      · exact World.frozen?_alloc_past _ _ _ (hlt' (.inl hk))
      · have hl : (ρ i).blk < w.heap.size := hlt' (.inl (by cases o' <;> first | rfl | cases hk))
        show (w.heap.push _)[(ρ i).blk]? = _
        rw [Array.getElem?_push_lt hl, Array.getElem?_eq_getElem hl]
    · have hlt := obj_lt hi
      rw [List.length_append, List.length_singleton] at hlt
      obtain rfl : i = h.length := by omega
      rw [List.getElem?_append_right (Nat.le_refl _), Nat.sub_self] at hi
      obtain rfl := Option.some.inj hi
      rw [upd_self]
      refine ⟨r.size, by rw [hsize]; exact Nat.lt_succ_self _, rfl, fun j hj => ?_, fun j v hv => ?_, hvs, fun v hv => wf_ext he (by omega) (hw v hv)⟩
      · simp only [Nat.zero_add]
        refine ⟨?_, World.frozen?_alloc_new _ _ _ _⟩
        rw [World.cell?_alloc_new, Array.getElem?_eq_getElem (by rw [hsz]; exact hj)]; rfl
      · simp only [Nat.zero_add]
        rw [map_c0_ext he hw, List.getElem?_map] at hv
        obtain ⟨x, hx, rfl⟩ := Option.map_eq_some_iff.1 hv
        rw [World.cell?_alloc_new]; exact hc j x hx
  · have key : ∀ (i : Nat) (o' : LO), (h ++ [LO.own t vs])[i]? = some o' → (i < h.length ∧ h[i]? = some o') ∨ i = h.length := by
      intro i o' hi
      rcases Nat.lt_or_ge i h.length with hlt | hge
      · rw [List.getElem?_append_left hlt] at hi; exact .inl ⟨hlt, hi⟩
      · have hlt := obj_lt hi
        rw [List.length_append, List.length_singleton] at hlt
        exact .inr (by omega)
    have old : ∀ (i : Nat) (o' : LO), h[i]? = some o' → o'.holds = true → (ρ i).blk < w.heap.size := by
      intro i o' hi hk
      have := r.obj i o' hi
      cases o' <;> simp [LO.holds] at hk <;> first
        | exact this.2.1
    rcases key i o1 hi with ⟨l1, a⟩ | rfl <;> rcases key j o2 hj with ⟨l2, b⟩ | rfl
    · rw [he i l1, he j l2]; exact r.inj i j o1 o2 a b hne k1 k2
    · rw [he i l1, upd_self]; have := old i o1 a k1; exact Nat.ne_of_lt this
    · rw [he j l2, upd_self]; have := old j o2 b k2; exact Nat.ne_of_gt this
    · exact absurd rfl hne

theorem setL_length : ∀ (l vs : List SV) (o : Nat), (setL vs o l).length = vs.length
  | [], vs, o => rfl
  | c :: r, vs, o => by rw [setL, setL_length r]; simp

theorem setL_get : ∀ (l vs : List SV) (o : Nat), o + l.length ≤ vs.length → ∀ j, (setL vs o l)[j]? = if o ≤ j ∧ j < o + l.length then l[j - o]? else vs[j]?
  | [], vs, o, _, j => by
    simp only [setL, List.length_nil, Nat.add_zero]
    rw [if_neg (by omega)]
  | c :: r, vs, o, h, j => by
    rw [List.length_cons] at h
    rw [setL, setL_get r (vs.set o c) (o + 1) (by rw [List.length_set]; omega) j, List.length_cons]
    by_cases h1 : o + 1 ≤ j ∧ j < o + 1 + r.length
    · rw [if_pos h1, if_pos (by omega), show j - o = (j - (o + 1)) + 1 by omega, List.getElem?_cons_succ]
    · rw [if_neg h1]
      by_cases h2 : j = o
      · subst h2
        rw [if_pos (by omega), Nat.sub_self, List.getElem?_cons_zero, List.getElem?_set_self (by omega)]
      · rw [if_neg (by omega), List.getElem?_set_ne (Ne.symm h2)]

theorem setL_mem {l vs : List SV} {o : Nat} (h : o + l.length ≤ vs.length) {v : SV} (hv : v ∈ setL vs o l) : v ∈ vs ∨ v ∈ l := by
  obtain ⟨j, hj⟩ := List.mem_iff_getElem?.1 hv
  rw [setL_get l vs o h j] at hj
  split at hj
  · exact .inr (List.mem_of_getElem? hj)
  · exact .inl (List.mem_of_getElem? hj)

theorem heap_setCells {b k : Nat} (hk : k ≠ b) : ∀ (vs : List Value) (o : Nat) (w : World), (w.setCells b o vs).heap[k]? = w.heap[k]?
  | [], o, w => rfl
  | v :: r, o, w => by
    rw [World.setCells, heap_setCells hk r]
    simp [World.setCell, Array.getElem?_modify, Ne.symm hk]
theorem Rel.keepSet {ρ : Nat → Ph} {h : LH} {w : World} (r : Rel P w0 ρ h w) {i : Nat} {o : LO} (hi : h[i]? = some o) (hh : o.holds = true) (x : Nat) (l : List Value) : ∀ k, w0.F k → k < w0.w.heap.size ∧ (w.setCells (ρ i).blk x l).heap[k]? = w0.w.heap[k]? := by
  intro k hk
  obtain ⟨k1, k2⟩ := r.keep k hk
  refine ⟨k1, ?_⟩
  have hne : k ≠ (ρ i).blk := fun e => r.out i o hi hh (by rw [← e]; exact hk)
  rw [heap_setCells hne, k2]
/-- Cells of an object are written. -/
theorem Rel.store {ρ : Nat → Ph} {h : LH} {w : World} (r : Rel P w0 ρ h w) {i t : Nat} {vs l : List SV} {o : Nat} (hi : h[i]? = some (.own t vs)) (hl : o + l.length ≤ vs.length) (hw : ∀ v ∈ l, wf ρ h.length v) :
    Rel P w0 ρ (h.set i (.own t (setL vs o l))) (w.setCells (ρ i).blk ((ρ i).base + o) (l.map (c0 ρ))) := by
  have hob := r.obj i _ hi
  obtain ⟨b1, b2, b3, b4, b5, b6, b7⟩ := hob
  have hsome : ∀ j, j < (l.map (c0 ρ)).length → (w.cell? ⟨(ρ i).blk, (ρ i).base + o + j, none⟩).isSome = true := by
    intro j hj
    rw [List.length_map] at hj
    have := (b4 (o + j) (by omega)).1
    rwa [← Nat.add_assoc] at this
  have key0 : ∀ (j : Nat) (o' : LO), (h.set i (LO.own t (setL vs o l)))[j]? = some o' → o'.holds = true → ∃ o'', h[j]? = some o'' ∧ o''.holds = true := by
    intro j o' hj hk
    by_cases e : j = i
    · subst e; exact ⟨_, hi, rfl⟩
    · rw [List.getElem?_set_ne (Ne.symm e)] at hj; exact ⟨o', hj, hk⟩
  refine ⟨r.below.trans ((Go.Lib.below_setCells_w b1 _ _ _).mono (Nat.le_refl _)), r.hB, r.keepSet hi rfl _ _, fun j o' hj hk => by obtain ⟨p, a1, a2⟩ := key0 j o' hj hk; exact r.out j p a1 a2, fun j o' hj => ?_, fun j k o1 o2 hj hk hne k1 k2 => ?_⟩
  · rw [List.length_set]
    by_cases e : j = i
    · subst e
      rw [List.getElem?_set_self (obj_lt hi)] at hj
      obtain rfl := Option.some.inj hj
      refine ⟨b1, by rw [size_setCells_w]; exact b2, b3, World.there_setCells b4 _ _ _, fun k v hv => ?_, by rw [setL_length]; exact b6, fun v hv => (setL_mem hl hv).elim (b7 v) (hw v)⟩
      rw [List.getElem?_map, setL_get l vs o hl k] at hv
      by_cases c : o ≤ k ∧ k < o + l.length
      · rw [if_pos c] at hv
        have hlt : k - o < (l.map (c0 ρ)).length := by rw [List.length_map]; omega
        have := World.cell?_setCells_in (ρ j).blk (l.map (c0 ρ)) ((ρ j).base + o) w hsome (k - o) hlt
        rw [show (ρ j).base + o + (k - o) = (ρ j).base + k by omega] at this
        rw [this, ← hv, ← List.getElem?_map, List.getElem?_eq_getElem hlt]
      · rw [if_neg c, ← List.getElem?_map] at hv
        rw [World.cell?_setCells_out _ _ _ _ _ (fun _ _ => by simp only [List.length_map]; omega)]
        exact b5 k v hv
    · rw [List.getElem?_set_ne (Ne.symm e)] at hj
      refine (r.obj j o' hj).moved (Ext.refl _ _) (Nat.le_refl _) (by rw [size_setCells_w]; exact Nat.le_refl _) (fun hk k v hv => ?_) (fun _ _ => World.frozen?_setCells _ _ _ _ _) (fun hk => ?_)
      · rw [World.cell?_setCells_out _ _ _ _ _ (fun hb _ => ?_)]
        · exact hv
        · exfalso
          rcases hk with hk | hk
          · exact r.inj j i o' _ hj hi e hk rfl hb
          · simp only at hb; omega
      · exact heap_setCells (r.inj j i o' _ hj hi e (by cases o' <;> first | rfl | cases hk) rfl) _ _ _
  · have key : ∀ (j : Nat) (o' : LO), (h.set i (LO.own t (setL vs o l)))[j]? = some o' → o'.holds = true → ∃ o'', h[j]? = some o'' ∧ o''.holds = true := by
      intro j o' hj hk
      by_cases e : j = i
      · subst e; exact ⟨_, hi, rfl⟩
      · rw [List.getElem?_set_ne (Ne.symm e)] at hj; exact ⟨o', hj, hk⟩
    obtain ⟨p1, a1, a2⟩ := key j o1 hj k1
    obtain ⟨p2, c1, c2⟩ := key k o2 hk k2
    exact r.inj j k p1 p2 a1 c1 hne a2 c2
where
  size_setCells_w : ∀ {b o : Nat} {vs : List Value} {w : World}, (w.setCells b o vs).heap.size = w.heap.size := by
    intro b o vs w
    induction vs generalizing o w with
    | nil => rfl
    | cons v r ih => rw [World.setCells, ih]; simp [World.setCell]

/-- An object is used up. -/
theorem Rel.kill {ρ : Nat → Ph} {h : LH} {w : World} (r : Rel P w0 ρ h w) (i : Nat) : Rel P w0 ρ (h.set i .dead) w := by
  have key : ∀ (j : Nat) (o' : LO), (h.set i LO.dead)[j]? = some o' → o' = .dead ∨ h[j]? = some o' := by
    intro j o' hj
    by_cases e : j = i
    · subst e
      have := obj_lt hj
      rw [List.length_set] at this
      rw [List.getElem?_set_self this] at hj
      exact .inl (Option.some.inj hj).symm
    · rw [List.getElem?_set_ne (Ne.symm e)] at hj; exact .inr hj
  refine ⟨r.below, r.hB, r.keep, fun j o' hj hk => by
    rcases key j o' hj with rfl | hj
    · cases hk
    · exact r.out j o' hj hk, fun j o' hj => ?_, fun j k o1 o2 hj hk hne k1 k2 => ?_⟩
  · rw [List.length_set]
    rcases key j o' hj with rfl | hj
    · trivial
    · exact r.obj j o' hj
  · rcases key j o1 hj with rfl | hj
    · cases k1
    · rcases key k o2 hk with rfl | hk
      · cases k2
      · exact r.inj j k o1 o2 hj hk hne k1 k2

/-- An append where there is room: the old name is used up, the new one begins where the slice began. -/
theorem Rel.inplace {ρ : Nat → Ph} {h : LH} {w : World} (r : Rel P w0 ρ h w) {i t : Nat} {vs new : List SV} {o m n : Nat} (hi : h[i]? = some (.own t vs)) (hom : (o + m) * (ρ i).sz ≤ vs.length) (hn : new.length = n * (ρ i).sz)
    (hcap : o + m + n ≤ (ρ i).cap) (hw : ∀ v ∈ new, wf ρ h.length v) :
    Rel P w0 (upd ρ h.length ⟨(ρ i).blk, (ρ i).base + o * (ρ i).sz, (ρ i).sz, (ρ i).cap - o, undef⟩) (h.set i .dead ++ [.own t ((vs.drop (o * (ρ i).sz)).take (m * (ρ i).sz) ++ new)])
      (w.setCells (ρ i).blk ((ρ i).base + o * (ρ i).sz + m * (ρ i).sz) (new.map (c0 ρ))) := by
  have he := upd_ext ρ h.length ⟨(ρ i).blk, (ρ i).base + o * (ρ i).sz, (ρ i).sz, (ρ i).cap - o, undef⟩
  obtain ⟨b1, b2, b3, b4, b5, b6, b7⟩ := r.obj i _ hi
  have hil := obj_lt hi
  have hlen : (h.set i LO.dead ++ [LO.own t ((vs.drop (o * (ρ i).sz)).take (m * (ρ i).sz) ++ new)]).length = h.length + 1 := by simp
  have hmul : (o + m + n) * (ρ i).sz ≤ (ρ i).cap * (ρ i).sz := Nat.mul_le_mul_right _ hcap
  have hmul2 : o * (ρ i).sz + ((ρ i).cap - o) * (ρ i).sz = (ρ i).cap * (ρ i).sz := by rw [← Nat.add_mul]; congr 1; omega
  rw [Nat.add_mul, Nat.add_mul] at hmul
  rw [Nat.add_mul] at hom
  have hsome : ∀ j, j < (new.map (c0 ρ)).length → (w.cell? ⟨(ρ i).blk, (ρ i).base + o * (ρ i).sz + m * (ρ i).sz + j, none⟩).isSome = true := by
    intro j hj
    rw [List.length_map] at hj
    have := (b4 (o * (ρ i).sz + m * (ρ i).sz + j) (by omega)).1
    rw [show (ρ i).base + o * (ρ i).sz + m * (ρ i).sz + j = (ρ i).base + (o * (ρ i).sz + m * (ρ i).sz + j) by omega]; exact this
  have hclen : ((vs.drop (o * (ρ i).sz)).take (m * (ρ i).sz)).length = m * (ρ i).sz := by rw [List.length_take, List.length_drop]; omega
  have key : ∀ (j : Nat) (o' : LO), (h.set i LO.dead ++ [LO.own t ((vs.drop (o * (ρ i).sz)).take (m * (ρ i).sz) ++ new)])[j]? = some o' → (j < h.length ∧ (o' = .dead ∨ (j ≠ i ∧ h[j]? = some o'))) ∨ (j = h.length ∧ o' = .own t ((vs.drop (o * (ρ i).sz)).take (m * (ρ i).sz) ++ new)) := by
    intro j o' hj
    have hlt := obj_lt hj
    rw [hlen] at hlt
    rcases Nat.lt_or_ge j h.length with hl | hg
    · rw [List.getElem?_append_left (by rw [List.length_set]; exact hl)] at hj
      by_cases e : j = i
      · subst e
        rw [List.getElem?_set_self hl] at hj
        exact .inl ⟨hl, .inl (Option.some.inj hj).symm⟩
      · rw [List.getElem?_set_ne (Ne.symm e)] at hj
        exact .inl ⟨hl, .inr ⟨e, hj⟩⟩
    · obtain rfl : j = h.length := by omega
      rw [List.getElem?_append_right (by rw [List.length_set]; exact Nat.le_refl _), List.length_set, Nat.sub_self] at hj
      exact .inr ⟨rfl, (Option.some.inj hj).symm⟩
  refine ⟨r.below.trans ((Go.Lib.below_setCells_w b1 _ _ _).mono (Nat.le_refl _)), r.hB, r.keepSet hi rfl _ _, fun j o' hj hk => by
    rcases key j o' hj with ⟨hl, rfl | ⟨hne, hj⟩⟩ | ⟨rfl, rfl⟩
    · cases hk
    · rw [he j hl]; exact r.out j o' hj hk
    · rw [upd_self]; exact r.out i _ hi rfl, fun j o' hj => ?_, fun j k o1 o2 hj hk hne k1 k2 => ?_⟩
  · rw [hlen]
    rcases key j o' hj with ⟨hl, rfl | ⟨hne, hj⟩⟩ | ⟨rfl, rfl⟩
    · trivial
    · rw [he j hl]
      refine (r.obj j o' hj).moved he (by omega) (by rw [Rel.store.size_setCells_w]; exact Nat.le_refl _) (fun hk k v hv => ?_) (fun _ _ => World.frozen?_setCells _ _ _ _ _) (fun hk => ?_)
      · rw [World.cell?_setCells_out _ _ _ _ _ (fun hb _ => ?_)]
        · exact hv
        · exfalso
          rcases hk with hk | hk
          · exact r.inj j i o' _ hj hi hne hk rfl hb
          · simp only at hb; omega
      · exact heap_setCells (r.inj j i o' _ hj hi hne (by cases o' <;> first | rfl | cases hk) rfl) _ _ _
    · rw [upd_self]
      refine ⟨b1, by rw [Rel.store.size_setCells_w]; exact b2, b3, fun k hk => ?_, fun k v hv => ?_, ?_, fun v hv => ?_⟩
      · have := World.there_setCells b4 (ρ i).blk ((ρ i).base + o * (ρ i).sz + m * (ρ i).sz) (new.map (c0 ρ)) (o * (ρ i).sz + k) (by simp only at hk; omega)
        rw [← Nat.add_assoc] at this; exact this
      · have hv' : ((List.map (c0 ρ) ((vs.drop (o * (ρ i).sz)).take (m * (ρ i).sz) ++ new)))[k]? = some v := by
          rw [← map_c0_ext he]
          · exact hv
          · intro u hu
            rcases List.mem_append.1 hu with hu | hu
            · exact b7 u (List.mem_of_mem_drop (List.mem_of_mem_take hu))
            · exact hw u hu
        rw [List.map_append] at hv'
        rcases Nat.lt_or_ge k (m * (ρ i).sz) with hk | hk
        · rw [List.getElem?_append_left (by rw [List.length_map, hclen]; exact hk)] at hv'
          rw [World.cell?_setCells_out _ _ _ _ _ (fun _ _ => by simp only; omega)]
          rw [List.map_take, List.map_drop, List.getElem?_take_of_lt hk, List.getElem?_drop] at hv'
          have := b5 _ v hv'
          rw [← Nat.add_assoc] at this; exact this
        · rw [List.getElem?_append_right (by rw [List.length_map, hclen]; exact hk), List.length_map, hclen] at hv'
          have hlt : k - m * (ρ i).sz < (new.map (c0 ρ)).length := (List.getElem?_eq_some_iff.1 hv').1
          have := World.cell?_setCells_in (ρ i).blk (new.map (c0 ρ)) ((ρ i).base + o * (ρ i).sz + m * (ρ i).sz) w hsome (k - m * (ρ i).sz) hlt
          rw [show (ρ i).base + o * (ρ i).sz + m * (ρ i).sz + (k - m * (ρ i).sz) = (ρ i).base + o * (ρ i).sz + k by omega] at this
          simp only
          rw [this, ← hv', List.getElem?_eq_getElem hlt]
      · rw [List.length_append, hclen]; simp only; omega
      · rcases List.mem_append.1 hv with hv | hv
        · exact wf_ext he (by omega) (b7 v (List.mem_of_mem_drop (List.mem_of_mem_take hv)))
        · exact wf_ext he (by omega) (hw v hv)
  · rcases key j o1 hj with ⟨l1, rfl | ⟨n1, a1⟩⟩ | ⟨rfl, rfl⟩
    · cases k1
    · rcases key k o2 hk with ⟨l2, rfl | ⟨n2, a2⟩⟩ | ⟨rfl, rfl⟩
      · cases k2
      · rw [he j l1, he k l2]; exact r.inj j k o1 o2 a1 a2 hne k1 k2
      · rw [he j l1, upd_self]; exact r.inj j i o1 _ a1 hi n1 k1 rfl
    · rcases key k o2 hk with ⟨l2, rfl | ⟨n2, a2⟩⟩ | ⟨rfl, rfl⟩
      · cases k2
      · rw [he k l2, upd_self]; exact r.inj i k _ o2 hi a2 (Ne.symm n2) rfl k2
      · exact absurd rfl hne


/-! ### Blocks that are no rows -/
/-- A new block at the heap's end. -/
theorem Rel.newBlk {ρ : Nat → Ph} {h : LH} {w w' : World} (r : Rel P w0 ρ h w) (p : Ph) (o : LO) (hp : p.blk = w.heap.size) (hB : Below w0.B w w') (hs : w'.heap.size = w.heap.size + 1) (hold : ∀ k, k < w.heap.size → w'.heap[k]? = w.heap[k]?)
    (ho : ObjR P w0.B (upd ρ h.length p) (h.length + 1) p w' o) : Rel P w0 (upd ρ h.length p) (h ++ [o]) w' := by
  have he := upd_ext ρ h.length p
  have hcell : ∀ (a : Addr), a.block < w.heap.size → w'.cell? a = w.cell? a := fun a ha => by unfold World.cell?; rw [hold _ ha]
  have hfr : ∀ (a : Addr), a.block < w.heap.size → w'.frozen? a = w.frozen? a := fun a ha => by unfold World.frozen?; rw [hold _ ha]
  have old : ∀ (i : Nat) (o' : LO), h[i]? = some o' → o'.holds = true → (ρ i).blk < w.heap.size := by
    intro i o' hi hk
    have := r.obj i o' hi
    cases o' <;> simp [LO.holds] at hk <;> exact this.2.1
  have key : ∀ (i : Nat) (o' : LO), (h ++ [o])[i]? = some o' → (i < h.length ∧ h[i]? = some o') ∨ (i = h.length ∧ o' = o) := by
    intro i o' hi
    rcases Nat.lt_or_ge i h.length with hlt | hge
    · rw [List.getElem?_append_left hlt] at hi; exact .inl ⟨hlt, hi⟩
    · have hlt := obj_lt hi
      rw [List.length_append, List.length_singleton] at hlt
      obtain rfl : i = h.length := by omega
      rw [List.getElem?_append_right (Nat.le_refl _), Nat.sub_self] at hi
      exact .inr ⟨rfl, (Option.some.inj hi).symm⟩
  refine ⟨r.below.trans hB, r.hB, fun k hk => ?_, fun i o' hi hk => ?_, fun i o' hi => ?_, fun i j o1 o2 hi hj hne k1 k2 => ?_⟩
  · obtain ⟨k1, k2⟩ := r.keep k hk
    exact ⟨k1, by rw [hold k (Nat.lt_of_lt_of_le k1 r.below.size)]; exact k2⟩
  · rcases key i o' hi with ⟨hlt, hi⟩ | ⟨rfl, rfl⟩
    · rw [he i hlt]; exact r.out i o' hi hk
    · rw [upd_self, hp]
      intro hF
      have := (r.keep _ hF).1
      have := r.below.size
      omega
  · rw [List.length_append, List.length_singleton]
    rcases key i o' hi with ⟨hlt, hi⟩ | ⟨rfl, rfl⟩
    · rw [he i hlt]
      have hlt' : (o'.holds = true ∨ (ρ i).blk < w0.B) → (ρ i).blk < w.heap.size := by
        rintro (hk | hk)
        · exact old i o' hi hk
        · have := r.size; omega
      exact (r.obj i o' hi).moved he (by omega) (by omega) (fun hk j v hv => by rw [hcell _ (hlt' hk)]; exact hv) (fun hk j => hfr _ (hlt' (.inl hk))) (fun hk => hold _ (hlt' (.inl (by cases o' <;> first | rfl | cases hk))))
    · rw [upd_self]; exact ho
  · rcases key i o1 hi with ⟨l1, a⟩ | ⟨rfl, rfl⟩ <;> rcases key j o2 hj with ⟨l2, b⟩ | ⟨rfl, rfl⟩
    · rw [he i l1, he j l2]; exact r.inj i j o1 o2 a b hne k1 k2
    · rw [he i l1, upd_self, hp]; exact Nat.ne_of_lt (old i o1 a k1)
    · rw [he j l2, upd_self, hp]; exact Nat.ne_of_gt (old j o2 b k2)
    · exact absurd rfl hne
/-- A block that is changed as a whole. -/
theorem Rel.setBlk {ρ : Nat → Ph} {h : LH} {w w' : World} (r : Rel P w0 ρ h w) {i : Nat} {o o' : LO} (hi : h[i]? = some o) (hh : o.holds = true) (hB : Below w0.B w w') (hs : w'.heap.size = w.heap.size) (hold : ∀ k, k ≠ (ρ i).blk → w'.heap[k]? = w.heap[k]?)
    (hlow : w0.B ≤ (ρ i).blk) (hh' : o'.holds = true) (ho : ObjR P w0.B ρ h.length (ρ i) w' o') : Rel P w0 ρ (h.set i o') w' := by
  have hcell : ∀ (a : Addr), a.block ≠ (ρ i).blk → w'.cell? a = w.cell? a := fun a ha => by unfold World.cell?; rw [hold _ ha]
  have hfr : ∀ (a : Addr), a.block ≠ (ρ i).blk → w'.frozen? a = w.frozen? a := fun a ha => by unfold World.frozen?; rw [hold _ ha]
  have key : ∀ (j : Nat) (x : LO), (h.set i o')[j]? = some x → (j = i ∧ x = o') ∨ (j ≠ i ∧ h[j]? = some x) := by
    intro j x hj
    by_cases e : j = i
    · subst e
      rw [List.getElem?_set_self (obj_lt hi)] at hj
      exact .inl ⟨rfl, (Option.some.inj hj).symm⟩
    · rw [List.getElem?_set_ne (Ne.symm e)] at hj; exact .inr ⟨e, hj⟩
  refine ⟨r.below.trans hB, r.hB, fun k hk => ?_, fun j x hj hk => ?_, fun j x hj => ?_, fun j k o1 o2 hj hk hne k1 k2 => ?_⟩
  · obtain ⟨k1, k2⟩ := r.keep k hk
    refine ⟨k1, ?_⟩
    rw [hold k (fun e => r.out i o hi hh (by rw [← e]; exact hk))]; exact k2
  · rcases key j x hj with ⟨rfl, rfl⟩ | ⟨e, hj⟩
    · exact r.out j o hi hh
    · exact r.out j x hj hk
  · rw [List.length_set]
    rcases key j x hj with ⟨rfl, rfl⟩ | ⟨e, hj⟩
    · exact ho
    · have hne : (x.holds = true ∨ (ρ j).blk < w0.B) → (ρ j).blk ≠ (ρ i).blk := by
        rintro (hk | hk)
        · exact r.inj j i x o hj hi e hk hh
        · omega
      exact (r.obj j x hj).moved (Ext.refl _ _) (Nat.le_refl _) (by omega) (fun hk n v hv => by rw [hcell _ (hne hk)]; exact hv) (fun hk n => hfr _ (hne (.inl hk))) (fun hk => hold _ (hne (.inl (by cases x <;> first | rfl | cases hk))))
  · rcases key j o1 hj with ⟨rfl, rfl⟩ | ⟨e1, h1⟩ <;> rcases key k o2 hk with ⟨rfl, rfl⟩ | ⟨e2, h2⟩
    · exact absurd rfl hne
    · exact r.inj j k o o2 hi h2 hne hh k2
    · exact r.inj j k o1 o h1 hi hne k1 hh
    · exact r.inj j k o1 o2 h1 h2 hne k1 k2

/-! ### Another base -/
/-- The run so far is what was there: a base that keeps more blocks. -/
theorem Rel.rebase {ρ : Nat → Ph} {h : LH} {w : World} (r : Rel P w0 ρ h w) (F : Nat → Prop) (hF : ∀ k, F k → k < w.heap.size) (ho : ∀ i o, h[i]? = some o → o.holds = true → ¬ F (ρ i).blk) : Rel P ⟨w, w0.B, F⟩ ρ h w :=
  ⟨Below.refl _ _, r.size, fun k hk => ⟨hF k hk, rfl⟩, ho, r.obj, r.inj⟩
/-- Back to the base ahead of it. -/
theorem Rel.unbase {ρ ρ' : Nat → Ph} {h h' : LH} {w w' : World} {F : Nat → Prop} (r : Rel P w0 ρ h w) (hF : ∀ k, w0.F k → F k) (r' : Rel P ⟨w, w0.B, F⟩ ρ' h' w') : Rel P w0 ρ' h' w' :=
  ⟨r.below.trans r'.below, r.hB, fun k hk => ⟨(r.keep k hk).1, by rw [(r'.keep k (hF k hk)).2]; exact (r.keep k hk).2⟩, fun i o hi hh hk => r'.out i o hi hh (hF _ hk), r'.obj, r'.inj⟩
/-- Where the later placing says the same, all is as it was. -/
theorem Rel.congr {ρ ρ' : Nat → Ph} {h : LH} {w : World} (r : Rel P w0 ρ h w) (he : Ext h.length ρ ρ') : Rel P w0 ρ' h w :=
  ⟨r.below, r.hB, r.keep, fun i o hi hh => by rw [he i (obj_lt hi)]; exact r.out i o hi hh, fun i o hi => by
    rw [he i (obj_lt hi)]
    exact (r.obj i o hi).moved he (Nat.le_refl _) (Nat.le_refl _) (fun _ _ _ hv => hv) (fun _ _ => rfl) (fun _ => rfl),
   fun i j o o' hi hj hne k1 k2 => by rw [he i (obj_lt hi), he j (obj_lt hj)]; exact r.inj i j o o' hi hj hne k1 k2⟩
/-- An object more, that is there already. -/
theorem Rel.add {ρ : Nat → Ph} {h : LH} {w : World} (r : Rel P w0 ρ h w) (o : LO) (ho : ObjR P w0.B ρ (h.length + 1) (ρ h.length) w o) (hf : o.holds = true → ¬ w0.F (ρ h.length).blk)
    (hd : o.holds = true → ∀ i o', h[i]? = some o' → o'.holds = true → (ρ i).blk ≠ (ρ h.length).blk) : Rel P w0 ρ (h ++ [o]) w := by
  have key : ∀ (i : Nat) (o' : LO), (h ++ [o])[i]? = some o' → (i < h.length ∧ h[i]? = some o') ∨ (i = h.length ∧ o' = o) := by
    intro i o' hi
    rcases Nat.lt_or_ge i h.length with hlt | hge
    · rw [List.getElem?_append_left hlt] at hi; exact .inl ⟨hlt, hi⟩
    · have hlt := obj_lt hi
      rw [List.length_append, List.length_singleton] at hlt
      obtain rfl : i = h.length := by omega
      rw [List.getElem?_append_right (Nat.le_refl _), Nat.sub_self] at hi
      exact .inr ⟨rfl, (Option.some.inj hi).symm⟩
  refine ⟨r.below, r.hB, r.keep, fun i o' hi hk => ?_, fun i o' hi => ?_, fun i j o1 o2 hi hj hne k1 k2 => ?_⟩
  · rcases key i o' hi with ⟨_, a⟩ | ⟨rfl, rfl⟩
    · exact r.out i o' a hk
    · exact hf hk
  · rw [List.length_append, List.length_singleton]
    rcases key i o' hi with ⟨_, a⟩ | ⟨rfl, rfl⟩
    · exact (r.obj i o' a).moved (Ext.refl _ _) (by omega) (Nat.le_refl _) (fun _ _ _ hv => hv) (fun _ _ => rfl) (fun _ => rfl)
    · exact ho
  · rcases key i o1 hi with ⟨_, a⟩ | ⟨rfl, rfl⟩ <;> rcases key j o2 hj with ⟨_, b⟩ | ⟨rfl, rfl⟩
    · exact r.inj i j o1 o2 a b hne k1 k2
    · exact hd k2 i o1 a k1
    · exact Ne.symm (hd k1 j o2 b k2)
    · exact absurd rfl hne
end Go.Proofs.YtiljgimcipdadaaGreatDoor.Ev
