/- A packed command is read back: the plain law. -/
import Derived.Test.YtbgfcgmbihhlbaaDoorWrF
set_option linter.unusedSimpArgs false
set_option linter.unusedVariables false
namespace Go.Proofs.YtbgfcgmbihhlbaaDoor.Ev.CW
open Go
open CK (Cm encC fieldsL fieldsB okC cmOf_enc)

def is64 (n : Int) : Prop := -9223372036854775808 ≤ n ∧ n < 9223372036854775808
/-- Its numbers are numbers of 64 bits. -/
def M64 (m : Cm) : Prop := is64 m.c ∧ is64 m.d ∧ is64 m.y ∧ is64 m.z ∧ is64 m.p ∧ is64 m.n ∧ is64 m.r ∧ is64 m.x

theorem num8_len (n : Int) : (num8 n).length = 8 := rfl
theorem cnt8 (n : Int) (hn : is64 n) (rest : List Int) : cntF 8 (num8 n ++ rest, false) = (n, rest, false) := by
  unfold cntF
  have h1 : takeF ((8 : Nat) : Int) (num8 n ++ rest) false = false := by
    unfold takeF
    rw [Bool.false_or, List.length_append, num8_len]
    exact decide_eq_false (by omega)
  rw [if_neg (by rw [h1]; decide)]
  have h2 : (num8 n ++ rest).take 8 = num8 n := List.take_left' (num8_len n)
  have h3 : (num8 n ++ rest).drop 8 = rest := List.drop_left' (num8_len n)
  simp only [h2, h3, vF_num8 n hn]
theorem cnt1 (x : Int) (hx : 0 ≤ x ∧ x < 256) (rest : List Int) : cntF 1 (x :: rest, false) = (x, rest, false) := by
  unfold cntF
  have h1 : takeF ((1 : Nat) : Int) (x :: rest) false = false := by
    unfold takeF
    rw [Bool.false_or, List.length_cons]
    exact decide_eq_false (by omega)
  rw [if_neg (by rw [h1]; decide)]
  have e : vF ([x] : List Int) = x := by unfold vF; simp
  simp only [List.take_succ_cons, List.take_zero, List.drop_succ_cons, List.drop_zero, e, toI_small hx]
theorem bytesS_T (s : ByteArray) : bytesS (bytesT s) = s := by
  unfold bytesS bytesT
  apply ByteArray.ext
  apply Array.toList_inj.1
  show List.map _ (List.map _ s.data.toList) = s.data.toList
  rw [List.map_map]
  refine (List.map_congr_left (g := id) fun b _ => ?_).trans (List.map_id _)
  simp
theorem txt1 (s : ByteArray) (hs : s.size ≤ 255) (rest : List Int) : takeS (cntF 1 (textB s ++ rest, false)).1 (cntF 1 (textB s ++ rest, false)).2 = (s, rest, false) := by
  unfold textB
  rw [List.cons_append, cnt1 _ (by omega)]
  unfold takeS
  have hl := bytesT_len s
  have h1 : takeF ((s.size : Nat) : Int) (bytesT s ++ rest) false = false := by
    unfold takeF
    rw [Bool.false_or, List.length_append, hl]
    exact decide_eq_false (by omega)
  simp only
  rw [if_neg (by rw [h1]; decide), Int.toNat_natCast]
  have h2 : (bytesT s ++ rest).take s.size = bytesT s := List.take_left' hl
  have h3 : (bytesT s ++ rest).drop s.size = rest := List.drop_left' hl
  rw [h2, h3, bytesS_T]
theorem stepT (m q : Cm) (hm : Short m) (f : UInt8) (hf : f = 73 ∨ f = 75 ∨ f = 74) (rest : List Int) : stepF (q, packF m f ++ rest, false) f = (setS q f (if f = 73 then m.a else if f = 75 then m.b else m.j), rest, false) := by
  unfold stepF
  rw [if_pos hf]
  rcases hf with rfl | rfl | rfl
  · have e : packF m 73 = textB m.a := rfl
    rw [e, txt1 _ hm.1]; rfl
  · have e : packF m 75 = textB m.b := rfl
    rw [e, txt1 _ hm.2.1]; rfl
  · have e : packF m 74 = textB m.j := rfl
    rw [e, txt1 _ hm.2.2]; rfl
theorem stepN (m q : Cm) (f : UInt8) (hf : ¬ (f = 73 ∨ f = 75 ∨ f = 74)) (hn : is64 (numOf m f.toNat)) (rest : List Int) : stepF (q, packF m f ++ rest, false) f = (setN q f.toNat (numOf m f.toNat), rest, false) := by
  unfold stepF
  rw [if_neg hf]
  have e : packF m f = num8 (numOf m f.toNat) := by
    unfold packF
    rw [if_neg (fun h => hf (.inl h)), if_neg (fun h => hf (.inr (.inl h))), if_neg (fun h => hf (.inr (.inr h)))]
  rw [e]
  simp only [cnt8 _ hn]
theorem num64 {m : Cm} (h : M64 m) (f : Int) : is64 (numOf m f) := by
  obtain ⟨h1, h2, h3, h4, h5, h6, h7, h8⟩ := h
  unfold numOf
  repeat' split
  all_goals assumption
/-- A letter's field, set as m has it. -/
def setF (m q : Cm) (f : UInt8) : Cm := if f = 73 ∨ f = 75 ∨ f = 74 then setS q f (if f = 73 then m.a else if f = 75 then m.b else m.j) else setN q f.toNat (numOf m f.toNat)
theorem fold_pack (m : Cm) (hm : Short m) (h64 : M64 m) (rest : List Int) : ∀ (l : List UInt8) (q : Cm), l.foldl stepF (q, l.flatMap (packF m) ++ rest, false) = (l.foldl (setF m) q, rest, false)
  | [], q => rfl
  | f :: l, q => by
    rw [List.flatMap_cons, List.append_assoc, List.foldl_cons, List.foldl_cons]
    have e : stepF (q, packF m f ++ (l.flatMap (packF m) ++ rest), false) f = (setF m q f, l.flatMap (packF m) ++ rest, false) := by
      unfold setF
      split
      · rename_i hf; exact stepT m q hm f hf _
      · rename_i hf; exact stepN m q f hf (num64 h64 _) _
    rw [e]
    exact fold_pack m hm h64 rest l _

theorem ok_parts {m : Cm} (h : okC m = true) : (1 ≤ m.k ∧ m.k ≤ 12) ∧ ((CK.hasF m.k 73 = false → m.a = ⟨#[]⟩) ∧ (CK.hasF m.k 75 = false → m.b = ⟨#[]⟩) ∧ (CK.hasF m.k 74 = false → m.j = ⟨#[]⟩)) ∧
    ((CK.hasF m.k 67 = false → m.c = 0) ∧ (CK.hasF m.k 68 = false → m.d = 0) ∧ (CK.hasF m.k 89 = false → m.y = 0) ∧ (CK.hasF m.k 90 = false → m.z = 0) ∧ (CK.hasF m.k 80 = false → m.p = 0) ∧ (CK.hasF m.k 65 = false → m.n = 0) ∧ (CK.hasF m.k 82 = false → m.r = 0) ∧ (CK.hasF m.k 70 = false → m.x = 0)) := by
  unfold okC at h
  simp only [Bool.and_eq_true] at h
  obtain ⟨h1, h2, h3⟩ := h
  rw [List.all_eq_true] at h2 h3
  have ht : ∀ (c : UInt8) (s : ByteArray), (if CK.hasF m.k c then CK.nameF s else s.toList.isEmpty) = true → CK.hasF m.k c = false → s = ⟨#[]⟩ := by
    intro c s hs hc
    rw [hc] at hs
    simp only [Bool.false_eq_true, if_false] at hs
    rw [ByteArray.toList_eq] at hs
    apply ByteArray.ext
    apply Array.toList_inj.1
    simpa using hs
  have hn : ∀ (c : UInt8) (n : Int), (n == 0 || CK.hasF m.k c) = true → CK.hasF m.k c = false → n = 0 := by
    intro c n hs hc
    rw [hc, Bool.or_false] at hs
    simpa using hs
  refine ⟨?_, ⟨ht 73 m.a (h2 (.str ⟨#[73]⟩, .str m.a) (by simp [CK.txtM])), ht 75 m.b (h2 (.str ⟨#[75]⟩, .str m.b) (by simp [CK.txtM])), ht 74 m.j (h2 (.str ⟨#[74]⟩, .str m.j) (by simp [CK.txtM]))⟩,
    hn 67 m.c (h3 (.str ⟨#[67]⟩, .int .i64 m.c) (by simp [CK.numM])), hn 68 m.d (h3 (.str ⟨#[68]⟩, .int .i64 m.d) (by simp [CK.numM])), hn 89 m.y (h3 (.str ⟨#[89]⟩, .int .i64 m.y) (by simp [CK.numM])), hn 90 m.z (h3 (.str ⟨#[90]⟩, .int .i64 m.z) (by simp [CK.numM])),
    hn 80 m.p (h3 (.str ⟨#[80]⟩, .int .i64 m.p) (by simp [CK.numM])), hn 65 m.n (h3 (.str ⟨#[65]⟩, .int .i64 m.n) (by simp [CK.numM])), hn 82 m.r (h3 (.str ⟨#[82]⟩, .int .i64 m.r) (by simp [CK.numM])), hn 70 m.x (h3 (.str ⟨#[70]⟩, .int .i64 m.x) (by simp [CK.numM]))⟩
  apply Classical.byContradiction
  intro hc
  have e : fieldsL m.k = [63] := by
    unfold fieldsL
    rw [if_neg (by omega), if_neg (by omega), if_neg (by omega), if_neg (by omega), if_neg (by omega), if_neg (by omega), if_neg (by omega), if_neg (by omega), if_neg (by omega), if_neg (by omega), if_neg (by omega), if_neg (by omega)]
  rw [e] at h1
  simp at h1
theorem set_all {m : Cm} (h : okC m = true) : (fieldsL m.k).foldl (setF m) (zeroC m.k) = m := by
  obtain ⟨⟨k1, k2⟩, ⟨t1, t2, t3⟩, n1, n2, n3, n4, n5, n6, n7, n8⟩ := ok_parts h
  obtain ⟨k, a, b, j, c, d, y, z, p, n, r, x⟩ := m
  simp only at *
  have hk : k = 1 ∨ k = 2 ∨ k = 3 ∨ k = 4 ∨ k = 5 ∨ k = 6 ∨ k = 7 ∨ k = 8 ∨ k = 9 ∨ k = 10 ∨ k = 11 ∨ k = 12 := by omega
  rcases hk with rfl | rfl | rfl | rfl | rfl | rfl | rfl | rfl | rfl | rfl | rfl | rfl <;>
    (simp [CK.hasF, fieldsL] at t1 t2 t3 n1 n2 n3 n4 n5 n6 n7 n8; simp [fieldsL, setF, setS, setN, numOf, zeroC, *])
/-- A packed command is read back. -/
theorem read_back {m : Cm} (h : okC m = true) (h64 : M64 m) (rest : List Int) : commandF (packC m ++ rest, false) = (m, rest, false) := by
  have hk := (ok_parts h).1
  have e : m.k % 256 = m.k := by omega
  unfold commandF packC
  rw [List.cons_append, cnt1 _ (by omega), e]
  simp only
  rw [fold_pack m (short_ok h) h64, set_all h]
end Go.Proofs.YtbgfcgmbihhlbaaDoor.Ev.CW
