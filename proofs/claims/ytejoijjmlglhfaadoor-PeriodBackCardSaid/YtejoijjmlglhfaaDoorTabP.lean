/- The table's functions are the program's; strconv.Itoa is known by what it comes to. -/
import Derived.Test.YtejoijjmlglhfaaDoorRows
import Derived.Test.YtejoijjmlglhfaaDoorCodeP
import Derived.Test.YtejoijjmlglhfaaDoorShelf
import Derived.KernelRfl
import Derived.WalkSmall
namespace Go.Proofs.YtejoijjmlglhfaaDoor.Ev.CP
open Go Go.RowKit Go.Sort
set_option linter.unusedVariables false
set_option linter.unusedSimpArgs false
theorem mixed : Tryd.prog.follows .mixedOrders = true := by kernel_rfl
theorem t3 : compF Tryd.prog 3 h3 = some e3 := by kernel_rfl
theorem t4 : compF Tryd.prog 4 h4 = some e4 := by kernel_rfl
theorem t5 : compF Tryd.prog 5 h5 = some e5 := by kernel_rfl
theorem t6 : compF Tryd.prog 6 h6 = some e6 := by kernel_rfl
theorem t7 : compF Tryd.prog 7 h7 = some e7 := by kernel_rfl
theorem t8 : compF Tryd.prog 8 h8 = some e8 := by kernel_rfl
theorem t9 : compF Tryd.prog 9 h9 = some e9 := by kernel_rfl
theorem t10 : compF Tryd.prog 10 h10 = some e10 := by kernel_rfl
theorem t11 : compF Tryd.prog 11 h11 = some e11 := by kernel_rfl
theorem t12 : compF Tryd.prog 12 h12 = some e12 := by kernel_rfl
theorem t13 : compF Tryd.prog 13 h13 = some e13 := by kernel_rfl
theorem t14 : compF Tryd.prog 14 h14 = some e14 := by kernel_rfl
theorem t15 : compF Tryd.prog 15 h15 = some e15 := by kernel_rfl
theorem t16 : compF Tryd.prog 16 h16 = some e16 := by kernel_rfl
theorem t17 : compF Tryd.prog 17 h17 = some e17 := by kernel_rfl

/-- The library's table lies where it lay. -/
def Gd (b : Base) : Prop := Lib.TabIs Tryd.prog b.w "internal/strconv.uint64pow10" .u64 Lib.pow10Tab ∧ ∃ g, Tryd.prog.globalNamed "internal/strconv.uint64pow10" = some g ∧ g < b.B
theorem tab_stays {b : Base} {ρ : Nat → Ph} {h : LH} {w : World} (r : Rel Tryd.prog b ρ h w) (hg : Gd b) : Lib.TabIs Tryd.prog w "internal/strconv.uint64pow10" .u64 Lib.pow10Tab := by
  obtain ⟨h1, g, h2, h3⟩ := hg
  exact var?_below r.below h2 h3 h1
theorem stays : Stays Tryd.prog Gd := fun b ρ h w F r hg => ⟨tab_stays r hg, hg.2⟩
/-- New blocks behind the heap change nothing. -/
theorem Rel.grown {P : Program} {b : Base} {ρ : Nat → Ph} {h : LH} {w : World} (r : Rel P b ρ h w) (os : Array Obj) : Rel P b ρ h (grow w os) := by
  have hg : ∀ k, k < w.heap.size → (grow w os).heap[k]? = w.heap[k]? := fun k hk => by
    unfold grow
    rw [Array.getElem?_append_left hk]
  have hlt : ∀ (a : Addr) v, w.cell? a = some v → a.block < w.heap.size := fun a v hv => by
    apply Classical.byContradiction
    intro hn
    unfold World.cell? at hv
    rw [Array.getElem?_eq_none (by omega)] at hv
    cases hv
  have hs : w.heap.size ≤ (grow w os).heap.size := by unfold grow; rw [Array.size_append]; omega
  refine ⟨⟨r.below.os, r.below.tape, r.below.output, Nat.le_trans r.below.size hs, fun k hk => ?_⟩, r.hB, fun k hk => ?_, r.out, fun i o hi => ?_, r.inj⟩
  · rw [hg k (Nat.lt_of_lt_of_le hk r.size)]; exact r.below.block k hk
  · obtain ⟨k1, k2⟩ := r.keep k hk
    exact ⟨k1, by rw [hg k (Nat.lt_of_lt_of_le k1 r.below.size)]; exact k2⟩
  · refine (r.obj i o hi).moved (Ext.refl _ _) (Nat.le_refl _) hs (fun _ j v hv => ?_) (fun hh j => ?_)
    · have hb := hlt _ _ hv
      simp only at hb
      unfold World.cell? at hv ⊢
      simp only at hv ⊢
      rw [hg _ hb]; exact hv
    · have hb : (ρ i).blk < w.heap.size := by
        have := r.obj i o hi
        cases o <;> first
          | (cases hh; done)
          | exact this.elim
          | exact this.2.1
      unfold World.frozen?
      simp only
      rw [hg _ hb]
theorem x18 : XOK Tryd.prog Gd 18 e18 := by
  refine ⟨1, 1, gItoa, rfl, fun b hg args h vs h' ρ w _ hga hm hf R hwf => ⟨⟨Tryd.f18, Tryd.func18, by decide +kernel, by kernel_rfl⟩, ?_⟩⟩
  unfold gItoa at hga
  split at hga
  · rename_i n h0
    split at hga
    · rename_i hn
      simp only [Option.some.injEq, Prod.mk.injEq] at hga
      obtain ⟨rfl, rfl⟩ := hga
      refine (Tryd.strconv_Itoa n hn.1 hn.2 w (tab_stays R hg)).mono fun e w' hq => ?_
      obtain ⟨rfl, k, os, rfl⟩ := hq
      exact ⟨ρ, rfl, Rel.grown (R.drewN k) os, Ext.refl _ _, Nat.le_refl _, trivial⟩
    · cases hga
  · cases hga
theorem table : ∀ f e, C f = some e → (∃ hs, compF Tryd.prog f hs = some e) ∨ XOK Tryd.prog Gd f e := by
  intro f e h
  unfold C at h
  split at h
  · cases h; exact .inl ⟨_, t3⟩
  · cases h; exact .inl ⟨_, t4⟩
  · cases h; exact .inl ⟨_, t5⟩
  · cases h; exact .inl ⟨_, t6⟩
  · cases h; exact .inl ⟨_, t7⟩
  · cases h; exact .inl ⟨_, t8⟩
  · cases h; exact .inl ⟨_, t9⟩
  · cases h; exact .inl ⟨_, t10⟩
  · cases h; exact .inl ⟨_, t11⟩
  · cases h; exact .inl ⟨_, t12⟩
  · cases h; exact .inl ⟨_, t13⟩
  · cases h; exact .inl ⟨_, t14⟩
  · cases h; exact .inl ⟨_, t15⟩
  · cases h; exact .inl ⟨_, t16⟩
  · cases h; exact .inl ⟨_, t17⟩
  · cases h; exact .inr x18
  · cases h
end Go.Proofs.YtejoijjmlglhfaaDoor.Ev.CP
