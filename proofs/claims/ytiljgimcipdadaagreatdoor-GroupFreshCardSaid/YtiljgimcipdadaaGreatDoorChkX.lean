/- group.Check by what it comes to: the program's own code, whatever the order in which its maps are gone through. -/
import Derived.Test.YtiljgimcipdadaaGreatDoorRows
import Derived.Test.YtiljgimcipdadaaGreatDoorChkB
import Derived.Test.YtiljgimcipdadaaGreatDoorShelf
import Derived.Shelf.Strings.SlTrimAscii
import Derived.KernelRfl
import Derived.WalkSmall
set_option linter.unusedSimpArgs false
set_option linter.unusedVariables false
namespace Go.Proofs.YtiljgimcipdadaaGreatDoor.Ev.CK
open Go Go.RowKit
def G1 : Base → Prop := fun _ => True
theorem stays1 : Stays Tryz.prog G1 := fun _ _ _ _ _ _ _ => trivial
theorem mixedK : Tryz.prog.follows .mixedOrders = true := by kernel_rfl

/-- New blocks behind the heap change nothing. -/
theorem Rel.newer {P : Program} {w0 : Base} {ρ : Nat → Ph} {h : LH} {w w' : World} (R : Rel P w0 ρ h w) (hb : Below w.heap.size w w') : Rel P w0 ρ h w' := by
  have hcell : ∀ (x : Addr), x.block < w.heap.size → w'.cell? x = w.cell? x := fun x hx => by unfold World.cell?; rw [hb.block _ hx]
  have hfr : ∀ (x : Addr), x.block < w.heap.size → w'.frozen? x = w.frozen? x := fun x hx => by unfold World.frozen?; rw [hb.block _ hx]
  refine ⟨R.below.trans (hb.mono R.size), R.hB, fun k hk => ?_, R.out, fun i o' hi => ?_, R.inj⟩
  · obtain ⟨k1, k2⟩ := R.keep k hk
    exact ⟨k1, by rw [hb.block k (Nat.lt_of_lt_of_le k1 R.below.size)]; exact k2⟩
  · have hlt : (o'.holds = true ∨ (ρ i).blk < w0.B) → (ρ i).blk < w.heap.size := by
      rintro (hk | hk)
      · have := R.obj i o' hi
        cases o' <;> simp [LO.holds] at hk <;> exact this.2.1
      · have := R.size; omega
    exact (R.obj i o' hi).moved (Ext.refl _ _) (Nat.le_refl _) hb.size (fun hk j v hv => by rw [hcell _ (hlt hk)]; exact hv) (fun hk j => hfr _ (hlt (.inl hk))) (fun hk => hb.block _ (hlt (.inl (by cases o' <;> first | rfl | cases hk))))

theorem x35 : XOK Tryz.prog G1 74 e74 := by
  refine ⟨2, 1, gHas, rfl, fun b hg args h vs h' ρ w _ hga hm hf R hwf => ⟨⟨Tryz.f74, Tryz.func74, by decide +kernel, by kernel_rfl⟩, ?_⟩⟩
  unfold gHas at hga
  split at hga
  · rename_i s t h0
    split at hga
    · rename_i c hc
      obtain ⟨rfl, rfl⟩ := Prod.mk.inj (Option.some.inj hga)
      obtain rfl : t = ⟨#[c]⟩ := by
        obtain ⟨t⟩ := t
        have : t = #[c] := Array.toList_inj.1 hc
        rw [this]
      refine (Tryz.strings_Contains_one s c w).mono fun e w' hq => ?_
      obtain ⟨rfl, rfl⟩ := hq
      exact ⟨ρ, rfl, R, Ext.refl _ _, Nat.le_refl _, trivial⟩
    · cases hga
  · cases hga
theorem x51 : XOK Tryz.prog G1 104 e104 := by
  refine ⟨2, 1, gTrim, rfl, fun b hg args h vs h' ρ w _ hga hm hf R hwf => ⟨⟨Tryz.f104, Tryz.func104, by decide +kernel, by kernel_rfl⟩, ?_⟩⟩
  unfold gTrim at hga
  split at hga
  · rename_i s t h0
    split at hga
    · rename_i hc
      obtain ⟨rfl, rfl⟩ := Prod.mk.inj (Option.some.inj hga)
      refine (Any.strings_Trim_laid Tryz.lays160 (by kernel_rfl) s t w hc.1 (by omega) (ascii_of_all hc.2.2)).mono fun e w' hq => ?_
      obtain ⟨rfl, hb⟩ := hq
      exact ⟨ρ, rfl, Rel.newer R hb, Ext.refl _ _, Nat.le_refl _, trivial⟩
    · cases hga
  · cases hga
theorem t33 : compF Tryz.prog 72 (keeps e72.body) = some e72 := by kernel_rfl
theorem t34 : compF Tryz.prog 73 (keeps e73.body) = some e73 := by kernel_rfl
theorem t36 : compF Tryz.prog 75 (keeps e75.body) = some e75 := by kernel_rfl
theorem t37 : compF Tryz.prog 76 (keeps e76.body) = some e76 := by kernel_rfl
theorem tableK : ∀ f e, C f = some e → (∃ hs, compF Tryz.prog f hs = some e) ∨ XOK Tryz.prog G1 f e := by
  intro f e h
  unfold C at h
  split at h
  · cases h; exact .inl ⟨_, t33⟩
  · cases h; exact .inl ⟨_, t34⟩
  · cases h; exact .inl ⟨_, t36⟩
  · cases h; exact .inl ⟨_, t37⟩
  · cases h; exact .inr x35
  · cases h; exact .inr x51
  · cases h
theorem callK : ∀ w0, G1 w0 → CallOK Tryz.prog w0 (callX C) := fun w0 hg => callX_ok stays1 hg mixedK tableK

/-! ### The code's parts -/
def cL : Code → Code
  | .seq a _ => a
  | c => c
def cR : Code → Code
  | .seq _ b => b
  | c => c
def cB : Code → Code
  | .block _ b => b
  | .loop b => b
  | c => c
def cO : Code → Array Oper
  | .region _ o _ => o
  | _ => #[]
noncomputable def B0 : Code := (Tryz.f49.body).getD .skip
noncomputable def p0 := cL B0
noncomputable def p1 := cL (cR B0)
noncomputable def p2 := cL (cR (cR B0))
noncomputable def m1 := cL (cR (cR (cR B0)))
noncomputable def m2 := cL (cR (cR (cR (cR B0))))
noncomputable def p3 := cR (cR (cR (cR (cR B0))))
noncomputable def o4 := cO (cL m1)
noncomputable def lo1 := cB (cB (cR m1))
noncomputable def o5 := cO (cL lo1)
noncomputable def bd1 := cB (cR (cR lo1))
noncomputable def o6 := cO (cL bd1)
noncomputable def rest1 := cR bd1
noncomputable def o10 := cO (cL m2)
noncomputable def lo2 := cB (cB (cR m2))
noncomputable def o11 := cO (cL lo2)
noncomputable def bd2 := cB (cR (cR lo2))
noncomputable def o12 := cO (cL bd2)
noncomputable def rest2 := cR bd2
theorem body23 : Tryz.f49.body = some (.seq p0 (.seq p1 (.seq p2 (.seq (.seq (.region 4 o4 false) (.block 0 (.loop (.seq (.region 5 o5 false) (.seq (.cond (.tmp 18) .skip (.exit 0)) (.block 1 (.seq (.region 6 o6 false) rest1)))))))
  (.seq (.seq (.region 10 o10 false) (.block 2 (.loop (.seq (.region 11 o11 false) (.seq (.cond (.tmp 43) .skip (.exit 2)) (.block 3 (.seq (.region 12 o12 false) rest2))))))) p3))))) := by kernel_rfl

def g5 : List EG := [⟨some 18, .ext (.t 17) 0, none⟩]
def g6 : List EG := [⟨some 20, .ext (.t 19) 0, none⟩, ⟨some 21, .ext (.t 19) 1, none⟩, ⟨some 4, .mov (.t 20), none⟩, ⟨some 5, .mov (.t 21), none⟩]
def g11 : List EG := [⟨some 43, .ext (.t 42) 0, none⟩]
def g12 : List EG := [⟨some 45, .ext (.t 44) 0, none⟩, ⟨some 46, .ext (.t 44) 1, none⟩, ⟨some 7, .mov (.t 45), none⟩, ⟨some 8, .mov (.t 46), none⟩]

theorem code_of {c : EC} (hn : noLoop c = true) {fr : Fr} {h : LH} {Φ : Ex → Fr → LH → Prop} (w : WPk C c fr h Φ) : ∃ x fr' h', codeE (callX C) 0 c fr h = some (x, fr', h') ∧ Φ x fr' h' := by
  obtain ⟨x, fr', h', e, r⟩ := w
  exact ⟨x, fr', h', by rw [codeE_noLoop c hn]; exact e, r⟩

noncomputable def loop1 (m : Cm) (h : LH) (iB ii : Nat) : MapLoop Tryz.prog 55 (callX C) 0 (txtM m) (good1 m.k) h (fr1 iB ii m.k) (frB1 iB ii m.k) frR [1, 3, 16] 16 18 17 19 o5 o6 rest1 where
  o1 := o5.toList.headD default
  o2 := o6.toList.headD default
  l1 := o5.toList.tail
  l2 := o6.toList.tail
  g1 := g5
  g2 := g6
  hs := [[1, 3, 5, 6, 16], [1, 3, 16, 38], [2], [2]]
  er := er1
  hs' := []
  frA := frA1 iB ii m.k
  frC := frC1 iB ii m.k
  e1 := by kernel_rfl
  e2 := by kernel_rfl
  p1 := by kernel_rfl
  p2 := by kernel_rfl
  q1 := by kernel_rfl
  q2 := by kernel_rfl
  r1 := by kernel_rfl
  r2 := by kernel_rfl
  k1 := by decide
  k2 := by decide
  c1 := by kernel_rfl
  c2 := by kernel_rfl
  c3 := by kernel_rfl
  h1t := fun k v h' => ⟨rfl, rfl⟩
  h1f := fun h' => ⟨rfl, rfl⟩
  h2i := fun k v => rfl
  h2 := fun k v h' => rfl
  h3 := fun x hx h' gr => by
    have key : ∀ (c : UInt8) (s : ByteArray), x = (.str ⟨#[c]⟩, .str s) → ∃ ex fr2 h2, codeE (callX C) 0 er1 (frC1 iB ii m.k x.1 x.2) h' = some (ex, fr2, h2) ∧ Gr h' h2 ∧ ((good1 m.k x = true ∧ ex = .normal ∧ keepF [1, 3, 16] fr2 = fr1 iB ii m.k) ∨ (good1 m.k x = false ∧ ex = .ret ∧ fr2 = frR)) := by
      rintro c s rfl
      obtain ⟨ex, f2, h2, e, rfl, r⟩ := code_of (c := er1) rfl (round1 (iB := iB) (ii := ii) (k := m.k) (c := c) (s := s) h')
      exact ⟨ex, f2, h2, e, Gr.refl _, r⟩
    unfold txtM at hx
    simp only [List.mem_cons, List.not_mem_nil, or_false] at hx
    rcases hx with hx | hx | hx <;> exact key _ _ hx

noncomputable def loop2 (m : Cm) (h : LH) (ii : Nat) : MapLoop Tryz.prog 55 (callX C) 0 (numM m) (good2 m.k) h (fr2 ii m.k) (frB2 ii m.k) frR [3, 41] 41 43 42 44 o11 o12 rest2 where
  o1 := o11.toList.headD default
  o2 := o12.toList.headD default
  l1 := o11.toList.tail
  l2 := o12.toList.tail
  g1 := g11
  g2 := g12
  hs := [[3, 41, 54], [2], [2]]
  er := er2
  hs' := []
  frA := frA2 ii m.k
  frC := frC2 ii m.k
  e1 := by kernel_rfl
  e2 := by kernel_rfl
  p1 := by kernel_rfl
  p2 := by kernel_rfl
  q1 := by kernel_rfl
  q2 := by kernel_rfl
  r1 := by kernel_rfl
  r2 := by kernel_rfl
  k1 := by decide
  k2 := by decide
  c1 := by kernel_rfl
  c2 := by kernel_rfl
  c3 := by kernel_rfl
  h1t := fun k v h' => ⟨rfl, rfl⟩
  h1f := fun h' => ⟨rfl, rfl⟩
  h2i := fun k v => rfl
  h2 := fun k v h' => rfl
  h3 := fun x hx h' gr => by
    have key : ∀ (c : UInt8) (n : Int), x = (.str ⟨#[c]⟩, .int .i64 n) → ∃ ex fr2' h2, codeE (callX C) 0 er2 (frC2 ii m.k x.1 x.2) h' = some (ex, fr2', h2) ∧ Gr h' h2 ∧ ((good2 m.k x = true ∧ ex = .normal ∧ keepF [3, 41] fr2' = fr2 ii m.k) ∨ (good2 m.k x = false ∧ ex = .ret ∧ fr2' = frR)) := by
      rintro c s rfl
      obtain ⟨ex, f2, h2, e, rfl, r⟩ := code_of (c := er2) rfl (round2 (ii := ii) (k := m.k) (c := c) (n := s) h')
      exact ⟨ex, f2, h2, e, Gr.refl _, r⟩
    unfold numM at hx
    simp only [List.mem_cons, List.not_mem_nil, or_false] at hx
    rcases hx with hx | hx | hx | hx | hx | hx | hx | hx <;> exact key _ _ hx

end Go.Proofs.YtiljgimcipdadaaGreatDoor.Ev.CK
