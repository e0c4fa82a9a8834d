/- WireForms: what the bytes are (plain). -/
import Derived.Test.YtbgfcgmbihhlbaaDoorWrG
set_option linter.unusedSimpArgs false
set_option linter.unusedVariables false
namespace Go.Proofs.YtbgfcgmbihhlbaaDoor.Ev.CW
open Go
open CK (Cm encC fieldsL fieldsB okC cmOf_enc)

theorem unpack_step {m : Cm} (h : okC m = true) (h64 : M64 m) (tot n : Nat) (rest : List Int) (acc : List Cm) : unpackN tot (n + 1) (packC m ++ rest) acc = unpackN tot n rest (acc ++ [m]) := by
  have hne : packC m ++ rest ≠ [] := by unfold packC; simp
  simp only [unpackN, if_neg hne, read_back h h64 rest, h]
  simp
theorem unpack_bad {l : List Int} (hl : l ≠ []) (hb : (commandF (l, false)).2.2 = true ∨ okC (commandF (l, false)).1 = false) (tot n : Nat) (acc : List Cm) : unpackN tot (n + 1) l acc = .inr (tot - l.length) := by
  have : (!(commandF (l, false)).2.2 && okC (commandF (l, false)).1) = false := by
    rcases hb with hb | hb <;> rw [hb] <;> simp
  simp only [unpackN, if_neg hl, this]
  simp

def cF (y r p : Int) : Cm := ⟨1, ⟨#[]⟩, ⟨#[]⟩, ⟨#[117, 107]⟩, 0, 0, y, 0, p, 0, r, 0⟩
def dF (n : Int) : Cm := ⟨10, ⟨#[97]⟩, ⟨#[98, 99, 100]⟩, ⟨#[]⟩, 0, 0, 0, 0, 0, n, 0, 0⟩
theorem name_a : CK.nameF ⟨#[97]⟩ = true := by decide
theorem name_bcd : CK.nameF ⟨#[98, 99, 100]⟩ = true := by decide
theorem name_uk : CK.nameF ⟨#[117, 107]⟩ = true := by decide
theorem empty_str : (⟨#[]⟩ : ByteArray).toList.isEmpty = true := by rw [ByteArray.toList_eq]; rfl
theorem okC_c (y r p : Int) : okC (cF y r p) = true := by
  simp [okC, cF, fieldsL, CK.txtM, CK.numM, CK.good1, CK.good2, CK.hasF, name_uk, empty_str]
theorem okC_d (n : Int) : okC (dF n) = true := by
  simp [okC, dF, fieldsL, CK.txtM, CK.numM, CK.good1, CK.good2, CK.hasF, name_a, name_bcd, empty_str]
theorem m64_c {y r p : Int} (hy : is64 y) (hr : is64 r) (hp : is64 p) : M64 (cF y r p) := by
  have z : is64 0 := by unfold is64; decide
  exact ⟨z, z, hy, z, hp, z, hr, z⟩
theorem m64_d {n : Int} (hn : is64 n) : M64 (dF n) := by
  have z : is64 0 := by unfold is64; decide
  exact ⟨z, z, z, z, z, hn, z, z⟩
theorem packC_c (y r p : Int) : packC (cF y r p) = [1, 2, 117, 107] ++ num8 y ++ num8 r ++ num8 p := rfl
theorem packC_d (n : Int) : packC (dF n) = [10, 1, 97, 3, 98, 99, 100] ++ num8 n := rfl
theorem lenC (y r p : Int) : (packC (cF y r p)).length = 28 := rfl
theorem lenD (n : Int) : (packC (dF n)).length = 15 := rfl
def wantF (y r p n : Int) : List Int := packC (cF y r p) ++ packC (dF n)
theorem lenW (y r p n : Int) : (wantF y r p n).length = 43 := rfl

section
variable {y r p n : Int}
/-- A command of the first kind that lacks a byte. -/
theorem short_c (hy : is64 y) (hr : is64 r) (hp : is64 p) : (commandF ((packC (cF y r p)).take 27, false)).2.2 = true := by
  have e : (packC (cF y r p)).take 27 = 1 :: (([74, 89, 82] : List UInt8).flatMap (packF (cF y r p)) ++ (num8 p).take 7) := rfl
  rw [e]
  unfold commandF
  rw [cnt1 _ (by decide)]
  show ((fieldsL 1).foldl stepF (zeroC 1, _, false)).2.2 = true
  have hf : fieldsL 1 = [74, 89, 82] ++ [80] := rfl
  rw [hf, List.foldl_append, fold_pack (cF y r p) (short_ok (okC_c y r p)) (m64_c hy hr hp)]
  rfl
theorem un1 : unpackN 1 2 [0] [] = .inr 0 := by rfl
theorem un2 : unpackN 3 4 [13, 1, 97] [] = .inr 0 := by rfl
theorem un3 : unpackN 2 3 [11, 1] [] = .inr 0 := by rfl
theorem un4 : unpackN 2 3 [11, 0] [] = .inr 0 := by decide +kernel
theorem un5 : unpackN 3 4 [11, 1, 65] [] = .inr 0 := by decide +kernel
theorem un6 : unpackN 11 12 [11, 9, 97, 98, 99, 100, 101, 102, 103, 104, 105] [] = .inr 0 := by decide +kernel
theorem un7 (hy : is64 y) (hr : is64 r) (hp : is64 p) (hn : is64 n) : unpackN 44 45 (wantF y r p n ++ [11]) [] = .inr 43 := by
  unfold wantF
  rw [List.append_assoc, unpack_step (okC_c y r p) (m64_c hy hr hp), unpack_step (okC_d n) (m64_d hn)]
  rw [unpack_bad (by simp) (.inl (by decide +kernel))]; rfl
theorem un8 (hy : is64 y) (hr : is64 r) (hp : is64 p) : unpackN 30 31 ((wantF y r p n).take 28 ++ [255, 1]) [] = .inr 28 := by
  have e : (wantF y r p n).take 28 = packC (cF y r p) := rfl
  rw [e, unpack_step (okC_c y r p) (m64_c hy hr hp)]
  rw [unpack_bad (by simp) (.inl (by decide +kernel))]; rfl
theorem un9 (hy : is64 y) (hr : is64 r) (hp : is64 p) : unpackN 27 28 ((wantF y r p n).take 27) [] = .inr 0 := by
  have e : (wantF y r p n).take 27 = (packC (cF y r p)).take 27 := rfl
  rw [e, unpack_bad (by rw [packC_c]; simp) (.inl (short_c hy hr hp))]; rfl
theorem un10 (hy : is64 y) (hr : is64 r) (hp : is64 p) : unpackN 33 34 ((wantF y r p n).take 33) [] = .inr 28 := by
  have e : (wantF y r p n).take 33 = packC (cF y r p) ++ [10, 1, 97, 3, 98] := rfl
  rw [e, unpack_step (okC_c y r p) (m64_c hy hr hp)]
  rw [unpack_bad (by simp) (.inl (by decide +kernel))]; rfl
theorem un11 (hy : is64 y) (hr : is64 r) (hp : is64 p) (hn : is64 n) : unpackN 86 87 (wantF y r p n ++ wantF y r p n) [] = .inl [cF y r p, dF n, cF y r p, dF n] := by
  unfold wantF
  rw [List.append_assoc, unpack_step (okC_c y r p) (m64_c hy hr hp), unpack_step (okC_d n) (m64_d hn)]
  rw [unpack_step (okC_c y r p) (m64_c hy hr hp)]
  have := unpack_step (okC_d n) (m64_d hn) 86 83 [] ([] ++ [cF y r p] ++ [dF n] ++ [cF y r p])
  rw [List.append_nil] at this
  rw [this]; rfl
end
end Go.Proofs.YtbgfcgmbihhlbaaDoor.Ev.CW
