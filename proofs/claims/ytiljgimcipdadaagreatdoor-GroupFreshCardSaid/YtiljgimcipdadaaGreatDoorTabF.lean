/- The table's functions are the program's; group.Check and slices.Grow are known by what they come to. -/
import Derived.Test.YtiljgimcipdadaaGreatDoorRows
import Derived.Test.YtiljgimcipdadaaGreatDoorCodeF
import Derived.Test.YtiljgimcipdadaaGreatDoorChkY
import Derived.Test.YtiljgimcipdadaaGreatDoorShelf
import Derived.KernelRfl
import Derived.WalkSmall
namespace Go.Proofs.YtiljgimcipdadaaGreatDoor.Ev.CF
open Go Go.RowKit
set_option linter.unusedVariables false
set_option linter.unusedSimpArgs false
theorem mixed : Tryz.prog.follows .mixedOrders = true := by kernel_rfl
theorem t3 : compF Tryz.prog 3 (keeps e3.body) = some e3 := by kernel_rfl
theorem t27 : compF Tryz.prog 27 (keeps e27.body) = some e27 := by kernel_rfl
theorem t5 : compF Tryz.prog 5 (keeps e5.body) = some e5 := by kernel_rfl
theorem t11 : compF Tryz.prog 11 (keeps e11.body) = some e11 := by kernel_rfl
theorem t4 : compF Tryz.prog 4 (keeps e4.body) = some e4 := by kernel_rfl
theorem t17 : compF Tryz.prog 17 (keeps e17.body) = some e17 := by kernel_rfl
theorem t6 : compF Tryz.prog 6 (keeps e6.body) = some e6 := by kernel_rfl
theorem t7 : compF Tryz.prog 7 (keeps e7.body) = some e7 := by kernel_rfl
theorem t8 : compF Tryz.prog 8 (keeps e8.body) = some e8 := by kernel_rfl
theorem t9 : compF Tryz.prog 9 (keeps e9.body) = some e9 := by kernel_rfl
theorem t10 : compF Tryz.prog 10 (keeps e10.body) = some e10 := by kernel_rfl
theorem t81 : compF Tryz.prog 81 (keeps e81.body) = some e81 := by kernel_rfl
theorem t19 : compF Tryz.prog 19 (keeps e19.body) = some e19 := by kernel_rfl
theorem t22 : compF Tryz.prog 22 (keeps e22.body) = some e22 := by kernel_rfl
theorem t50 : compF Tryz.prog 50 (keeps e50.body) = some e50 := by kernel_rfl
theorem t51 : compF Tryz.prog 51 (keeps e51.body) = some e51 := by kernel_rfl
theorem t41 : compF Tryz.prog 41 (keeps e41.body) = some e41 := by kernel_rfl
theorem t53 : compF Tryz.prog 53 (keeps e53.body) = some e53 := by kernel_rfl
theorem t15 : compF Tryz.prog 15 (keeps e15.body) = some e15 := by kernel_rfl
theorem t16 : compF Tryz.prog 16 (keeps e16.body) = some e16 := by kernel_rfl
theorem t18 : compF Tryz.prog 18 (keeps e18.body) = some e18 := by kernel_rfl
theorem t20 : compF Tryz.prog 20 (keeps e20.body) = some e20 := by kernel_rfl
theorem t21 : compF Tryz.prog 21 (keeps e21.body) = some e21 := by kernel_rfl
theorem t12 : compF Tryz.prog 12 (keeps e12.body) = some e12 := by kernel_rfl
theorem t13 : compF Tryz.prog 13 (keeps e13.body) = some e13 := by kernel_rfl
theorem t14 : compF Tryz.prog 14 (keeps e14.body) = some e14 := by kernel_rfl
theorem t30 : compF Tryz.prog 30 (keeps e30.body) = some e30 := by kernel_rfl
theorem t23 : compF Tryz.prog 23 (keeps e23.body) = some e23 := by kernel_rfl
theorem t24 : compF Tryz.prog 24 (keeps e24.body) = some e24 := by kernel_rfl
theorem t25 : compF Tryz.prog 25 (keeps e25.body) = some e25 := by kernel_rfl
theorem t26 : compF Tryz.prog 26 (keeps e26.body) = some e26 := by kernel_rfl
theorem t117 : compF Tryz.prog 117 (keeps e117.body) = some e117 := by kernel_rfl
theorem t118 : compF Tryz.prog 118 (keeps e118.body) = some e118 := by kernel_rfl
theorem t119 : compF Tryz.prog 119 (keeps e119.body) = some e119 := by kernel_rfl
theorem t129 : compF Tryz.prog 129 (keeps e129.body) = some e129 := by kernel_rfl
theorem t168 : compF Tryz.prog 168 (keeps e168.body) = some e168 := by kernel_rfl
theorem t212 : compF Tryz.prog 212 (keeps e212.body) = some e212 := by kernel_rfl
theorem t33 : compF Tryz.prog 33 (keeps e33.body) = some e33 := by kernel_rfl
theorem t34 : compF Tryz.prog 34 (keeps e34.body) = some e34 := by kernel_rfl
theorem t101 : compF Tryz.prog 101 (keeps e101.body) = some e101 := by kernel_rfl
theorem t102 : compF Tryz.prog 102 (keeps e102.body) = some e102 := by kernel_rfl
theorem t66 : compF Tryz.prog 66 (keeps e66.body) = some e66 := by kernel_rfl
theorem t78 : compF Tryz.prog 78 (keeps e78.body) = some e78 := by kernel_rfl
theorem t79 : compF Tryz.prog 79 (keeps e79.body) = some e79 := by kernel_rfl
theorem t54 : compF Tryz.prog 54 (keeps e54.body) = some e54 := by kernel_rfl
theorem t63 : compF Tryz.prog 63 (keeps e63.body) = some e63 := by kernel_rfl
theorem t88 : compF Tryz.prog 88 (keeps e88.body) = some e88 := by kernel_rfl
theorem t28 : compF Tryz.prog 28 (keeps e28.body) = some e28 := by kernel_rfl
theorem t29 : compF Tryz.prog 29 (keeps e29.body) = some e29 := by kernel_rfl
theorem t31 : compF Tryz.prog 31 (keeps e31.body) = some e31 := by kernel_rfl
theorem t32 : compF Tryz.prog 32 (keeps e32.body) = some e32 := by kernel_rfl
theorem t35 : compF Tryz.prog 35 (keeps e35.body) = some e35 := by kernel_rfl
theorem t36 : compF Tryz.prog 36 (keeps e36.body) = some e36 := by kernel_rfl
theorem t37 : compF Tryz.prog 37 (keeps e37.body) = some e37 := by kernel_rfl
theorem t38 : compF Tryz.prog 38 (keeps e38.body) = some e38 := by kernel_rfl
theorem t39 : compF Tryz.prog 39 (keeps e39.body) = some e39 := by kernel_rfl
theorem t40 : compF Tryz.prog 40 (keeps e40.body) = some e40 := by kernel_rfl
theorem t42 : compF Tryz.prog 42 (keeps e42.body) = some e42 := by kernel_rfl
theorem t43 : compF Tryz.prog 43 (keeps e43.body) = some e43 := by kernel_rfl
theorem t134 : compF Tryz.prog 134 (keeps e134.body) = some e134 := by kernel_rfl
theorem t55 : compF Tryz.prog 55 (keeps e55.body) = some e55 := by kernel_rfl
theorem t56 : compF Tryz.prog 56 (keeps e56.body) = some e56 := by kernel_rfl
theorem t57 : compF Tryz.prog 57 (keeps e57.body) = some e57 := by kernel_rfl
theorem t44 : compF Tryz.prog 44 (keeps e44.body) = some e44 := by kernel_rfl
theorem t45 : compF Tryz.prog 45 (keeps e45.body) = some e45 := by kernel_rfl
theorem t46 : compF Tryz.prog 46 (keeps e46.body) = some e46 := by kernel_rfl
theorem t47 : compF Tryz.prog 47 (keeps e47.body) = some e47 := by kernel_rfl
theorem t48 : compF Tryz.prog 48 (keeps e48.body) = some e48 := by kernel_rfl
theorem t156 : compF Tryz.prog 156 (keeps e156.body) = some e156 := by kernel_rfl
theorem t67 : compF Tryz.prog 67 (keeps e67.body) = some e67 := by kernel_rfl
theorem t165 : compF Tryz.prog 165 (keeps e165.body) = some e165 := by kernel_rfl
theorem t90 : compF Tryz.prog 90 (keeps e90.body) = some e90 := by kernel_rfl
theorem t205 : compF Tryz.prog 205 (keeps e205.body) = some e205 := by kernel_rfl
theorem t241 : compF Tryz.prog 241 (keeps e241.body) = some e241 := by kernel_rfl
theorem t58 : compF Tryz.prog 58 (keeps e58.body) = some e58 := by kernel_rfl
theorem t144 : compF Tryz.prog 144 (keeps e144.body) = some e144 := by kernel_rfl
theorem t145 : compF Tryz.prog 145 (keeps e145.body) = some e145 := by kernel_rfl
theorem t105 : compF Tryz.prog 105 (keeps e105.body) = some e105 := by kernel_rfl
theorem t106 : compF Tryz.prog 106 (keeps e106.body) = some e106 := by kernel_rfl
theorem t107 : compF Tryz.prog 107 (keeps e107.body) = some e107 := by kernel_rfl
theorem t108 : compF Tryz.prog 108 (keeps e108.body) = some e108 := by kernel_rfl
theorem t109 : compF Tryz.prog 109 (keeps e109.body) = some e109 := by kernel_rfl
theorem t130 : compF Tryz.prog 130 (keeps e130.body) = some e130 := by kernel_rfl
theorem t131 : compF Tryz.prog 131 (keeps e131.body) = some e131 := by kernel_rfl
theorem t132 : compF Tryz.prog 132 (keeps e132.body) = some e132 := by kernel_rfl
theorem t133 : compF Tryz.prog 133 (keeps e133.body) = some e133 := by kernel_rfl
theorem t135 : compF Tryz.prog 135 (keeps e135.body) = some e135 := by kernel_rfl
theorem t60 : compF Tryz.prog 60 (keeps e60.body) = some e60 := by kernel_rfl
theorem t61 : compF Tryz.prog 61 (keeps e61.body) = some e61 := by kernel_rfl
theorem t62 : compF Tryz.prog 62 (keeps e62.body) = some e62 := by kernel_rfl
theorem t64 : compF Tryz.prog 64 (keeps e64.body) = some e64 := by kernel_rfl
theorem t65 : compF Tryz.prog 65 (keeps e65.body) = some e65 := by kernel_rfl
theorem t179 : compF Tryz.prog 179 (keeps e179.body) = some e179 := by kernel_rfl
theorem t68 : compF Tryz.prog 68 (keeps e68.body) = some e68 := by kernel_rfl
theorem t69 : compF Tryz.prog 69 (keeps e69.body) = some e69 := by kernel_rfl
theorem t70 : compF Tryz.prog 70 (keeps e70.body) = some e70 := by kernel_rfl
theorem t237 : compF Tryz.prog 237 (keeps e237.body) = some e237 := by kernel_rfl
theorem t182 : compF Tryz.prog 182 (keeps e182.body) = some e182 := by kernel_rfl
theorem t166 : compF Tryz.prog 166 (keeps e166.body) = some e166 := by kernel_rfl
theorem t167 : compF Tryz.prog 167 (keeps e167.body) = some e167 := by kernel_rfl
theorem t169 : compF Tryz.prog 169 (keeps e169.body) = some e169 := by kernel_rfl
theorem t170 : compF Tryz.prog 170 (keeps e170.body) = some e170 := by kernel_rfl
theorem t171 : compF Tryz.prog 171 (keeps e171.body) = some e171 := by kernel_rfl
theorem t172 : compF Tryz.prog 172 (keeps e172.body) = some e172 := by kernel_rfl
theorem t173 : compF Tryz.prog 173 (keeps e173.body) = some e173 := by kernel_rfl
theorem t174 : compF Tryz.prog 174 (keeps e174.body) = some e174 := by kernel_rfl
theorem t175 : compF Tryz.prog 175 (keeps e175.body) = some e175 := by kernel_rfl
theorem t176 : compF Tryz.prog 176 (keeps e176.body) = some e176 := by kernel_rfl
theorem t177 : compF Tryz.prog 177 (keeps e177.body) = some e177 := by kernel_rfl
theorem t178 : compF Tryz.prog 178 (keeps e178.body) = some e178 := by kernel_rfl
theorem t91 : compF Tryz.prog 91 (keeps e91.body) = some e91 := by kernel_rfl
theorem t100 : compF Tryz.prog 100 (keeps e100.body) = some e100 := by kernel_rfl
theorem t260 : compF Tryz.prog 260 (keeps e260.body) = some e260 := by kernel_rfl
theorem t273 : compF Tryz.prog 273 (keeps e273.body) = some e273 := by kernel_rfl
theorem t204 : compF Tryz.prog 204 (keeps e204.body) = some e204 := by kernel_rfl
theorem t207 : compF Tryz.prog 207 (keeps e207.body) = some e207 := by kernel_rfl
theorem t208 : compF Tryz.prog 208 (keeps e208.body) = some e208 := by kernel_rfl
theorem t209 : compF Tryz.prog 209 (keeps e209.body) = some e209 := by kernel_rfl
theorem t210 : compF Tryz.prog 210 (keeps e210.body) = some e210 := by kernel_rfl
theorem t211 : compF Tryz.prog 211 (keeps e211.body) = some e211 := by kernel_rfl
theorem t213 : compF Tryz.prog 213 (keeps e213.body) = some e213 := by kernel_rfl
theorem t214 : compF Tryz.prog 214 (keeps e214.body) = some e214 := by kernel_rfl
theorem t215 : compF Tryz.prog 215 (keeps e215.body) = some e215 := by kernel_rfl
theorem t217 : compF Tryz.prog 217 (keeps e217.body) = some e217 := by kernel_rfl
theorem t218 : compF Tryz.prog 218 (keeps e218.body) = some e218 := by kernel_rfl
theorem t219 : compF Tryz.prog 219 (keeps e219.body) = some e219 := by kernel_rfl
theorem t222 : compF Tryz.prog 222 (keeps e222.body) = some e222 := by kernel_rfl
theorem t223 : compF Tryz.prog 223 (keeps e223.body) = some e223 := by kernel_rfl
theorem t224 : compF Tryz.prog 224 (keeps e224.body) = some e224 := by kernel_rfl
theorem t226 : compF Tryz.prog 226 (keeps e226.body) = some e226 := by kernel_rfl
theorem t239 : compF Tryz.prog 239 (keeps e239.body) = some e239 := by kernel_rfl
theorem t240 : compF Tryz.prog 240 (keeps e240.body) = some e240 := by kernel_rfl
theorem t242 : compF Tryz.prog 242 (keeps e242.body) = some e242 := by kernel_rfl
theorem t243 : compF Tryz.prog 243 (keeps e243.body) = some e243 := by kernel_rfl
theorem t245 : compF Tryz.prog 245 (keeps e245.body) = some e245 := by kernel_rfl
theorem t254 : compF Tryz.prog 254 (keeps e254.body) = some e254 := by kernel_rfl
theorem t255 : compF Tryz.prog 255 (keeps e255.body) = some e255 := by kernel_rfl
theorem t256 : compF Tryz.prog 256 (keeps e256.body) = some e256 := by kernel_rfl
theorem t270 : compF Tryz.prog 270 (keeps e270.body) = some e270 := by kernel_rfl
theorem t274 : compF Tryz.prog 274 (keeps e274.body) = some e274 := by kernel_rfl
theorem t275 : compF Tryz.prog 275 (keeps e275.body) = some e275 := by kernel_rfl
theorem t279 : compF Tryz.prog 279 (keeps e279.body) = some e279 := by kernel_rfl
theorem t289 : compF Tryz.prog 289 (keeps e289.body) = some e289 := by kernel_rfl

/-- Nothing is asked of the memory in which a call begins. -/
def Gd : Base → Prop := fun _ => True
theorem stays : Stays Tryz.prog Gd := fun _ _ _ _ _ _ _ => trivial
theorem xCheck : XOK Tryz.prog Gd 49 e49 := by
  refine ⟨1, 1, gCheck, rfl, fun b hg args h vs h' ρ w _ hga hm hf R hwf => ⟨⟨Tryz.f49, Tryz.func49, by decide +kernel, by kernel_rfl⟩, ?_⟩⟩
  unfold gCheck at hga
  split at hga
  · rename_i l h0
    split at hga
    · rename_i m hc
      obtain ⟨rfl, rfl⟩ := Prod.mk.inj (Option.some.inj hga)
      obtain rfl := CK.cmOf_some hc
      refine (CK.check_calls m R (hwf _ List.mem_cons_self)).mono fun e w' hq => ?_
      obtain ⟨ρ', rfl, R', E'⟩ := hq
      exact ⟨ρ', rfl, R', E', Nat.le_refl _, trivial⟩
    · cases hga
  · cases hga
theorem xGrow : XOK Tryz.prog Gd 59 e59 := by
  refine ⟨2, 1, gGrow, rfl, fun b hg args h vs h' ρ w _ hga hm hf R hwf => ⟨⟨Tryz.f59, Tryz.func59, by decide +kernel, by kernel_rfl⟩, ?_⟩⟩
  unfold gGrow at hga
  split at hga
  · rename_i n h0
    split at hga
    · rename_i hn
      obtain ⟨m, rfl⟩ : ∃ m : Nat, n = m := ⟨n.toNat, by omega⟩
      have hm2 : m ≤ 1000000 := by omega
      split at hga
      · rename_i h1
        obtain rfl : m = 0 := by omega
        obtain ⟨rfl, rfl⟩ := Prod.mk.inj (Option.some.inj hga)
        refine (Any8.slices_Grow_room Tryz.growI none 0 0 0 w (by omega) (by omega) (by omega) (by omega)).mono fun e w' hq => ?_
        obtain ⟨rfl, rfl⟩ := hq
        exact ⟨ρ, rfl, R, Ext.refl _ _, Nat.le_refl _, trivial⟩
      · rename_i h1
        have hpos : 0 < m := by omega
        obtain ⟨rfl, rfl⟩ := Prod.mk.inj (Option.some.inj hga)
        obtain ⟨i, hi⟩ : ∃ i, Tryz.prog.info? 100 = some i := Option.isSome_iff_exists.1 (by kernel_rfl)
        have hb : (Tryz.prog.info? 100).map (·.bytes) = some 16 := by kernel_rfl
        have hz1 : ((Tryz.prog.info? 100).bind (·.zero)).isSome = true := by kernel_rfl
        have hz2 : ((Tryz.prog.info? 100).bind (·.zero)).map (·.cells.size) = some 2 := by kernel_rfl
        have hc2 : Tryz.prog.cellsOf 100 = 2 := by kernel_rfl
        rw [hi] at hb hz1 hz2
        have hP := cellsOf_info hi
        obtain ⟨z, hz⟩ := Option.isSome_iff_exists.1 hz1
        have hz' : i.zero = some z := hz
        rw [hz] at hz2
        have hzs : z.cells.size = 2 := Option.some.inj hz2
        have hb' : i.bytes = 16 := Option.some.inj hb
        have hs2 : i.size = 2 := by rw [← hP, hc2]
        refine (Any8.slices_Grow_grow Tryz.growI i z hi hz' (by rw [hs2]; omega) none 0 0 m [] w (by omega) (by omega) (by rw [hb']; omega) (by omega) (by simp) (fun _ => rfl) (fun a ha => by cases ha)).mono fun e w' hq => ?_
        have hq' : e = .returned (.slice (some ⟨w.heap.size, 0, none⟩) 0 (grownCap w (0 + m) 0 100)) ∧ w' = w.drew.alloc (.cells (([] : List Value).toArray ++ Builtin.zeroCells z.cells (0 + m - 0) ++ Builtin.zeroCells z.cells (grownCap w (0 + m) 0 100 - (0 + m))) 100) := hq
        obtain ⟨rfl, rfl⟩ := hq'
        have hge : 0 + m ≤ grownCap w (0 + m) 0 100 := grownCap_ge w _ _ _
        refine ⟨upd ρ h.length ⟨w.heap.size, 0, Tryz.prog.cellsOf 100, grownCap w (0 + m) 0 100, undef⟩, ?_, R.drew.alloc 100 _ [] (grownCap w (0 + m) 0 100) ?_ (Nat.zero_le _) (fun j v hj => by cases hj) (fun v hv => by cases hv), upd_ext _ _ _, by simp, ?_⟩
        · simp [packE, cv, c0, adr, upd_self]
        · rw [hc2]
          simp only [Array.size_append, List.size_toArray, List.length_nil, size_zeroCells, hzs]
          omega
        · simp [packE, wfV, wf]
    · cases hga
  · cases hga
theorem table : ∀ f e, C f = some e → (∃ hs, compF Tryz.prog f hs = some e) ∨ XOK Tryz.prog Gd f e := by
  intro f e h
  unfold C at h
  split at h
  · cases h; exact .inl ⟨_, t3⟩
  · cases h; exact .inl ⟨_, t27⟩
  · cases h; exact .inl ⟨_, t5⟩
  · cases h; exact .inl ⟨_, t11⟩
  · cases h; exact .inl ⟨_, t4⟩
  · cases h; exact .inl ⟨_, t17⟩
  · cases h; exact .inl ⟨_, t6⟩
  · cases h; exact .inl ⟨_, t7⟩
  · cases h; exact .inl ⟨_, t8⟩
  · cases h; exact .inl ⟨_, t9⟩
  · cases h; exact .inl ⟨_, t10⟩
  · cases h; exact .inl ⟨_, t81⟩
  · cases h; exact .inl ⟨_, t19⟩
  · cases h; exact .inl ⟨_, t22⟩
  · cases h; exact .inl ⟨_, t50⟩
  · cases h; exact .inl ⟨_, t51⟩
  · cases h; exact .inl ⟨_, t41⟩
  · cases h; exact .inl ⟨_, t53⟩
  · cases h; exact .inl ⟨_, t15⟩
  · cases h; exact .inl ⟨_, t16⟩
  · cases h; exact .inl ⟨_, t18⟩
  · cases h; exact .inl ⟨_, t20⟩
  · cases h; exact .inl ⟨_, t21⟩
  · cases h; exact .inl ⟨_, t12⟩
  · cases h; exact .inl ⟨_, t13⟩
  · cases h; exact .inl ⟨_, t14⟩
  · cases h; exact .inl ⟨_, t30⟩
  · cases h; exact .inl ⟨_, t23⟩
  · cases h; exact .inl ⟨_, t24⟩
  · cases h; exact .inl ⟨_, t25⟩
  · cases h; exact .inl ⟨_, t26⟩
  · cases h; exact .inl ⟨_, t117⟩
  · cases h; exact .inl ⟨_, t118⟩
  · cases h; exact .inl ⟨_, t119⟩
  · cases h; exact .inl ⟨_, t129⟩
  · cases h; exact .inl ⟨_, t168⟩
  · cases h; exact .inl ⟨_, t212⟩
  · cases h; exact .inl ⟨_, t33⟩
  · cases h; exact .inl ⟨_, t34⟩
  · cases h; exact .inl ⟨_, t101⟩
  · cases h; exact .inl ⟨_, t102⟩
  · cases h; exact .inl ⟨_, t66⟩
  · cases h; exact .inl ⟨_, t78⟩
  · cases h; exact .inl ⟨_, t79⟩
  · cases h; exact .inl ⟨_, t54⟩
  · cases h; exact .inl ⟨_, t63⟩
  · cases h; exact .inl ⟨_, t88⟩
  · cases h; exact .inl ⟨_, t28⟩
  · cases h; exact .inl ⟨_, t29⟩
  · cases h; exact .inl ⟨_, t31⟩
  · cases h; exact .inl ⟨_, t32⟩
  · cases h; exact .inl ⟨_, t35⟩
  · cases h; exact .inl ⟨_, t36⟩
  · cases h; exact .inl ⟨_, t37⟩
  · cases h; exact .inl ⟨_, t38⟩
  · cases h; exact .inl ⟨_, t39⟩
  · cases h; exact .inl ⟨_, t40⟩
  · cases h; exact .inl ⟨_, t42⟩
  · cases h; exact .inl ⟨_, t43⟩
  · cases h; exact .inl ⟨_, t134⟩
  · cases h; exact .inl ⟨_, t55⟩
  · cases h; exact .inl ⟨_, t56⟩
  · cases h; exact .inl ⟨_, t57⟩
  · cases h; exact .inl ⟨_, t44⟩
  · cases h; exact .inl ⟨_, t45⟩
  · cases h; exact .inl ⟨_, t46⟩
  · cases h; exact .inl ⟨_, t47⟩
  · cases h; exact .inl ⟨_, t48⟩
  · cases h; exact .inl ⟨_, t156⟩
  · cases h; exact .inl ⟨_, t67⟩
  · cases h; exact .inl ⟨_, t165⟩
  · cases h; exact .inl ⟨_, t90⟩
  · cases h; exact .inl ⟨_, t205⟩
  · cases h; exact .inl ⟨_, t241⟩
  · cases h; exact .inl ⟨_, t58⟩
  · cases h; exact .inl ⟨_, t144⟩
  · cases h; exact .inl ⟨_, t145⟩
  · cases h; exact .inl ⟨_, t105⟩
  · cases h; exact .inl ⟨_, t106⟩
  · cases h; exact .inl ⟨_, t107⟩
  · cases h; exact .inl ⟨_, t108⟩
  · cases h; exact .inl ⟨_, t109⟩
  · cases h; exact .inl ⟨_, t130⟩
  · cases h; exact .inl ⟨_, t131⟩
  · cases h; exact .inl ⟨_, t132⟩
  · cases h; exact .inl ⟨_, t133⟩
  · cases h; exact .inl ⟨_, t135⟩
  · cases h; exact .inl ⟨_, t60⟩
  · cases h; exact .inl ⟨_, t61⟩
  · cases h; exact .inl ⟨_, t62⟩
  · cases h; exact .inl ⟨_, t64⟩
  · cases h; exact .inl ⟨_, t65⟩
  · cases h; exact .inl ⟨_, t179⟩
  · cases h; exact .inl ⟨_, t68⟩
  · cases h; exact .inl ⟨_, t69⟩
  · cases h; exact .inl ⟨_, t70⟩
  · cases h; exact .inl ⟨_, t237⟩
  · cases h; exact .inl ⟨_, t182⟩
  · cases h; exact .inl ⟨_, t166⟩
  · cases h; exact .inl ⟨_, t167⟩
  · cases h; exact .inl ⟨_, t169⟩
  · cases h; exact .inl ⟨_, t170⟩
  · cases h; exact .inl ⟨_, t171⟩
  · cases h; exact .inl ⟨_, t172⟩
  · cases h; exact .inl ⟨_, t173⟩
  · cases h; exact .inl ⟨_, t174⟩
  · cases h; exact .inl ⟨_, t175⟩
  · cases h; exact .inl ⟨_, t176⟩
  · cases h; exact .inl ⟨_, t177⟩
  · cases h; exact .inl ⟨_, t178⟩
  · cases h; exact .inl ⟨_, t91⟩
  · cases h; exact .inl ⟨_, t100⟩
  · cases h; exact .inl ⟨_, t260⟩
  · cases h; exact .inl ⟨_, t273⟩
  · cases h; exact .inl ⟨_, t204⟩
  · cases h; exact .inl ⟨_, t207⟩
  · cases h; exact .inl ⟨_, t208⟩
  · cases h; exact .inl ⟨_, t209⟩
  · cases h; exact .inl ⟨_, t210⟩
  · cases h; exact .inl ⟨_, t211⟩
  · cases h; exact .inl ⟨_, t213⟩
  · cases h; exact .inl ⟨_, t214⟩
  · cases h; exact .inl ⟨_, t215⟩
  · cases h; exact .inl ⟨_, t217⟩
  · cases h; exact .inl ⟨_, t218⟩
  · cases h; exact .inl ⟨_, t219⟩
  · cases h; exact .inl ⟨_, t222⟩
  · cases h; exact .inl ⟨_, t223⟩
  · cases h; exact .inl ⟨_, t224⟩
  · cases h; exact .inl ⟨_, t226⟩
  · cases h; exact .inl ⟨_, t239⟩
  · cases h; exact .inl ⟨_, t240⟩
  · cases h; exact .inl ⟨_, t242⟩
  · cases h; exact .inl ⟨_, t243⟩
  · cases h; exact .inl ⟨_, t245⟩
  · cases h; exact .inl ⟨_, t254⟩
  · cases h; exact .inl ⟨_, t255⟩
  · cases h; exact .inl ⟨_, t256⟩
  · cases h; exact .inl ⟨_, t270⟩
  · cases h; exact .inl ⟨_, t274⟩
  · cases h; exact .inl ⟨_, t275⟩
  · cases h; exact .inl ⟨_, t279⟩
  · cases h; exact .inl ⟨_, t289⟩
  · cases h; exact .inr xCheck
  · cases h; exact .inr xGrow
  · cases h
end Go.Proofs.YtiljgimcipdadaaGreatDoor.Ev.CF
