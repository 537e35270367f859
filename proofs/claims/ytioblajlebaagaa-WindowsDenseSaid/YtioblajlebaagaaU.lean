/- Scalars below 10000 (hexadecimal) as UTF-8: plain numbers, no Go in sight. -/
import Derived.Laws.BytesArg
import Derived.Laws.RangeAny
namespace Go.Proofs.Ytioblajlebaagaa

/-- a scalar of the first plane -/
def okU (u : Nat) : Prop := u < 55296 ∨ (57344 ≤ u ∧ u < 65536)
/-- its bytes -/
def enc (u : Nat) : List Int :=
  if u < 128 then [(u : Int)] else if u < 2048 then [192 + (u : Int) / 64, 128 + (u : Int) % 64] else [224 + (u : Int) / 4096, 128 + (u : Int) / 64 % 64, 128 + (u : Int) % 64]
def encs (l : List Nat) : List Int := l.flatMap enc
/-- where the i-th scalar's bytes begin -/
def pos (l : List Nat) (i : Nat) : Nat := (encs (l.take i)).length
theorem encs_succ (l : List Nat) (i : Nat) (h : i < l.length) : encs (l.take (i + 1)) = encs (l.take i) ++ enc l[i] := by
  unfold encs
  rw [List.take_succ_eq_append_getElem h, List.flatMap_append, List.flatMap_singleton]
theorem encs_split (l : List Nat) (i : Nat) (h : i < l.length) : encs l = encs (l.take i) ++ (enc l[i] ++ encs (l.drop (i + 1))) := by
  conv => lhs; rw [← List.take_append_drop (i + 1) l]
  rw [encs, List.flatMap_append, ← encs, ← encs, encs_succ l i h, List.append_assoc]
theorem pos_zero (l : List Nat) : pos l 0 = 0 := rfl
theorem pos_succ (l : List Nat) (i : Nat) (h : i < l.length) : pos l (i + 1) = pos l i + (enc l[i]).length := by
  unfold pos
  rw [encs_succ l i h, List.length_append]
theorem pos_end (l : List Nat) : pos l l.length = (encs l).length := by unfold pos; rw [List.take_length]
theorem enc_len (u : Nat) : 1 ≤ (enc u).length ∧ (enc u).length ≤ 3 := by unfold enc; split <;> (try split) <;> simp
theorem encs_le (l : List Nat) : (encs l).length ≤ 3 * l.length := by
  induction l with
  | nil => simp [encs]
  | cons u l ih =>
    have := (enc_len u).2
    have e : encs (u :: l) = enc u ++ encs l := by simp [encs]
    rw [e, List.length_append, List.length_cons]
    omega
theorem pos_le (l : List Nat) (i : Nat) (h : i < l.length) : pos l i + (enc l[i]).length ≤ (encs l).length := by
  have e := congrArg List.length (encs_split l i h)
  simp only [List.length_append] at e
  unfold pos
  omega
theorem encs_at (l : List Nat) (i j : Nat) (h : i < l.length) (hj : j < (enc l[i]).length) : (encs l).getD (pos l i + j) 0 = (enc l[i]).getD j 0 := by
  rw [encs_split l i h]
  simp only [List.getD]
  rw [List.getElem?_append_right (by unfold pos; omega), show pos l i + j - (encs (l.take i)).length = j by unfold pos; omega, List.getElem?_append_left hj]
theorem enc_bd (u : Nat) (h : okU u) : ∀ x ∈ enc u, 0 ≤ x ∧ x ≤ 255 := by
  unfold okU at h
  unfold enc
  intro x hx
  split at hx
  · simp at hx; omega
  · split at hx
    · simp at hx; omega
    · simp at hx; omega
theorem encs_bd (l : List Nat) (h : ∀ u ∈ l, okU u) : ∀ x ∈ encs l, 0 ≤ x ∧ x ≤ 255 := by
  intro x hx
  unfold encs at hx
  obtain ⟨u, hu, hx⟩ := List.mem_flatMap.1 hx
  exact enc_bd u (h u hu) x hx
/-- a text of numbers, byte by byte -/
theorem str_get (xs : List Int) (i : Nat) (h : i < xs.length) (hb : ∀ x ∈ xs, 0 ≤ x ∧ x ≤ 255) : ((strOfNums xs).get! i).toNat = (xs.getD i 0).toNat := by
  have hs : i < (strOfNums xs).size := by rw [strOfNums_size]; exact h
  have e : (strOfNums xs).get! i = UInt8.ofNat (xs[i]).toNat := by
    have := get_at (strOfNums xs) i hs
    rw [Nat.add_zero] at this
    have e2 : (strOfNums xs)[i]'hs = (xs.map fun n => UInt8.ofNat n.toNat)[i]'(by simpa using h) := rfl
    rw [this, e2, List.getElem_map]
  rw [e, List.getD_eq_getElem?_getD, List.getElem?_eq_getElem h]
  have hx := hb xs[i] (List.getElem_mem h)
  simp only [Option.getD_some, UInt8.toNat_ofNat']
  omega
theorem str_append (xs ys : List Int) : strOfNums xs ++ strOfNums ys = strOfNums (xs ++ ys) := by
  apply ByteArray.ext
  simp [strOfNums, ByteArray.data_append]
/-- a range over the text meets the scalars in their order -/
theorem decode_enc (l : List Nat) (hl : ∀ u ∈ l, okU u) (i : Nat) (h : i < l.length) : Utf8.decode (strOfNums (encs l)) (pos l i) = (l[i], (enc l[i]).length) := by
  have ho : okU l[i] := hl _ (List.getElem_mem h)
  have hp := pos_le l i h
  have hb := encs_bd l hl
  have hz := strOfNums_size (encs l)
  have g : ∀ j, j < (enc l[i]).length → ((strOfNums (encs l)).get! (pos l i + j)).toNat = ((enc l[i]).getD j 0).toNat := fun j hj => by
    rw [str_get _ _ (by omega) hb, encs_at l i j h hj]
  generalize l[i] = u at *
  unfold okU at ho
  by_cases h1 : u < 128
  · have e : enc u = [(u : Int)] := by simp [enc, h1]
    rw [e] at g hp ⊢
    have g0 := g 0 (by simp)
    simp only [Nat.add_zero, List.getD_cons_zero, Int.toNat_natCast] at g0
    simp [Utf8.decode, g0, h1]
  · by_cases h2 : u < 2048
    · have e : enc u = [192 + (u : Int) / 64, 128 + (u : Int) % 64] := by simp [enc, h1, h2]
      rw [e] at g hp ⊢
      have g0 := g 0 (by simp)
      have g1 := g 1 (by simp)
      simp only [Nat.add_zero, List.getD_cons_zero, List.getD_cons_succ] at g0 g1
      have q0 : (192 + (u : Int) / 64).toNat = 192 + u / 64 := by omega
      have q1 : (128 + (u : Int) % 64).toNat = 128 + u % 64 := by omega
      rw [q0] at g0
      rw [q1] at g1
      simp only [List.length_cons, List.length_nil] at hp
      have c1 : pos l i + 1 < (strOfNums (encs l)).size := by rw [hz]; omega
      simp only [Utf8.decode, Nat.add_zero, g0, g1, c1]
      rw [if_neg (by omega)]
      have d1 : (192 + u / 64) / 32 = 6 := by omega
      have d2 : (128 + u % 64) / 64 = 2 := by omega
      have d3 : (192 + u / 64) % 32 * 64 + (128 + u % 64) % 64 = u := by omega
      rw [d1, d2, d3]
      simp
      omega
    · have e : enc u = [224 + (u : Int) / 4096, 128 + (u : Int) / 64 % 64, 128 + (u : Int) % 64] := by simp [enc, h1, h2]
      rw [e] at g hp ⊢
      have g0 := g 0 (by simp)
      have g1 := g 1 (by simp)
      have g2 := g 2 (by simp)
      simp only [Nat.add_zero, List.getD_cons_zero, List.getD_cons_succ] at g0 g1 g2
      have q0 : (224 + (u : Int) / 4096).toNat = 224 + u / 4096 := by omega
      have q1 : (128 + (u : Int) / 64 % 64).toNat = 128 + u / 64 % 64 := by omega
      have q2 : (128 + (u : Int) % 64).toNat = 128 + u % 64 := by omega
      rw [q0] at g0
      rw [q1] at g1
      rw [q2] at g2
      simp only [List.length_cons, List.length_nil] at hp
      have c1 : pos l i + 1 < (strOfNums (encs l)).size := by rw [hz]; omega
      have c2 : pos l i + 2 < (strOfNums (encs l)).size := by rw [hz]; omega
      simp only [Utf8.decode, Nat.add_zero, g0, g1, g2, c1, c2]
      rw [if_neg (by omega)]
      have d0 : (224 + u / 4096) / 32 = 7 := by omega
      have d1 : (224 + u / 4096) / 16 = 14 := by omega
      have d2 : (128 + u / 64 % 64) / 64 = 2 := by omega
      have d3 : (128 + u % 64) / 64 = 2 := by omega
      have d4 : (224 + u / 4096) % 16 * 4096 + (128 + u / 64 % 64) % 64 * 64 + (128 + u % 64) % 64 = u := by omega
      have d5 : Utf8.valid (u : Int) = true := by simp [Utf8.valid]; omega
      rw [d0, d1, d2, d3, d4, d5]
      simp
      omega
end Go.Proofs.Ytioblajlebaagaa
