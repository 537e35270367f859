/- The tables of the layer ebcdic as plain lists, and what is asked of them: no Go in sight. -/
namespace Go.Proofs.Ytnjackgfodpnjaa
def tab70 : List Int := [0, 1, 2, 3, 156, 9, 134, 127, 151, 141, 142, 11, 12, 13, 14, 15, 16, 17, 18, 19, 157, 133, 8, 135, 24, 25, 146, 143, 28, 29, 30, 31, 128, 129, 130, 131, 132, 10, 23, 27, 136, 137, 138, 139, 140, 5, 6, 7, 144, 145, 22, 147, 148, 149, 150, 4, 152, 153, 154, 155, 20, 21, 158, 26, 32, 160, 226, 228, 224, 225, 227, 229, 231, 241, 162, 46, 60, 40, 43, 124, 38, 233, 234, 235, 232, 237, 238, 239, 236, 223, 33, 36, 42, 41, 59, 172, 45, 47, 194, 196, 192, 193, 195, 197, 199, 209, 166, 44, 37, 95, 62, 63, 248, 201, 202, 203, 200, 205, 206, 207, 204, 96, 58, 35, 64, 39, 61, 34, 216, 97, 98, 99, 100, 101, 102, 103, 104, 105, 171, 187, 240, 253, 254, 177, 176, 106, 107, 108, 109, 110, 111, 112, 113, 114, 170, 186, 230, 184, 198, 164, 181, 126, 115, 116, 117, 118, 119, 120, 121, 122, 161, 191, 208, 221, 222, 174, 94, 163, 165, 183, 169, 167, 182, 188, 189, 190, 91, 93, 175, 168, 180, 215, 123, 65, 66, 67, 68, 69, 70, 71, 72, 73, 173, 244, 246, 242, 243, 245, 125, 74, 75, 76, 77, 78, 79, 80, 81, 82, 185, 251, 252, 249, 250, 255, 92, 247, 83, 84, 85, 86, 87, 88, 89, 90, 178, 212, 214, 210, 211, 213, 48, 49, 50, 51, 52, 53, 54, 55, 56, 57, 179, 219, 220, 217, 218, 159]
def tab71 : List Int := [0, 1, 2, 3, 156, 9, 134, 127, 151, 141, 142, 11, 12, 13, 14, 15, 16, 17, 18, 19, 157, 133, 8, 135, 24, 25, 146, 143, 28, 29, 30, 31, 128, 129, 130, 131, 132, 10, 23, 27, 136, 137, 138, 139, 140, 5, 6, 7, 144, 145, 22, 147, 148, 149, 150, 4, 152, 153, 154, 155, 20, 21, 158, 26, 32, 160, 226, 228, 224, 225, 227, 229, 231, 241, 91, 46, 60, 40, 43, 33, 38, 233, 234, 235, 232, 237, 238, 239, 236, 223, 93, 36, 42, 41, 59, 94, 45, 47, 194, 196, 192, 193, 195, 197, 199, 209, 166, 44, 37, 95, 62, 63, 248, 201, 202, 203, 200, 205, 206, 207, 204, 96, 58, 35, 64, 39, 61, 34, 216, 97, 98, 99, 100, 101, 102, 103, 104, 105, 171, 187, 240, 253, 254, 177, 176, 106, 107, 108, 109, 110, 111, 112, 113, 114, 170, 186, 230, 184, 198, 164, 181, 126, 115, 116, 117, 118, 119, 120, 121, 122, 161, 191, 208, 221, 222, 174, 162, 163, 165, 183, 169, 167, 182, 188, 189, 190, 172, 124, 175, 168, 180, 215, 123, 65, 66, 67, 68, 69, 70, 71, 72, 73, 173, 244, 246, 242, 243, 245, 125, 74, 75, 76, 77, 78, 79, 80, 81, 82, 185, 251, 252, 249, 250, 255, 92, 247, 83, 84, 85, 86, 87, 88, 89, 90, 178, 212, 214, 210, 211, 213, 48, 49, 50, 51, 52, 53, 54, 55, 56, 57, 179, 219, 220, 217, 218, 159]
def tab72 : List Int := [0, 1, 2, 3, 156, 9, 134, 127, 151, 141, 142, 11, 12, 13, 14, 15, 16, 17, 18, 19, 157, 133, 8, 135, 24, 25, 146, 143, 28, 29, 30, 31, 128, 129, 130, 131, 132, 10, 23, 27, 136, 137, 138, 139, 140, 5, 6, 7, 144, 145, 22, 147, 148, 149, 150, 4, 152, 153, 154, 155, 20, 21, 158, 26, 32, 160, 226, 228, 224, 225, 227, 229, 123, 241, 199, 46, 60, 40, 43, 33, 38, 233, 234, 235, 232, 237, 238, 239, 236, 223, 286, 304, 42, 41, 59, 94, 45, 47, 194, 196, 192, 193, 195, 197, 91, 209, 351, 44, 37, 95, 62, 63, 248, 201, 202, 203, 200, 205, 206, 207, 204, 305, 58, 214, 350, 39, 61, 220, 216, 97, 98, 99, 100, 101, 102, 103, 104, 105, 171, 187, 125, 96, 166, 177, 176, 106, 107, 108, 109, 110, 111, 112, 113, 114, 170, 186, 230, 184, 198, 164, 181, 246, 115, 116, 117, 118, 119, 120, 121, 122, 161, 191, 93, 36, 64, 174, 162, 163, 165, 183, 169, 167, 182, 188, 189, 190, 172, 124, 175, 168, 180, 215, 231, 65, 66, 67, 68, 69, 70, 71, 72, 73, 173, 244, 126, 242, 243, 245, 287, 74, 75, 76, 77, 78, 79, 80, 81, 82, 185, 251, 92, 249, 250, 255, 252, 247, 83, 84, 85, 86, 87, 88, 89, 90, 178, 212, 35, 210, 211, 213, 48, 49, 50, 51, 52, 53, 54, 55, 56, 57, 179, 219, 34, 217, 218, 159]

/-- a kind's list: what each byte stands for -/
def tab (k : Int) : List Int := if k = 70 then tab70 else if k = 71 then tab71 else if k = 72 then tab72 else []
/-- is it a kind of the layer? -/
def isK (k : Int) : Bool := k == 70 || k == 71 || k == 72
/-- what stands for a byte -/
def val (k : Int) (b : Nat) : Int := (tab k).getD b 65533
/-- the first byte from i on, among n, that stands for u -/
def fndF (k u : Int) : Nat → Nat → Option Nat
  | 0, _ => none
  | n + 1, i => if val k i = u then some i else fndF k u n (i + 1)
def fnd (k u : Int) : Option Nat := if isK k = false ∨ u = 65533 then none else fndF k u 256 0
def scalV (k : Int) (b : Nat) : Int := if isK k && !(val k b == 65533) then val k b else 0
def scalB (k : Int) (b : Nat) : Bool := isK k && !(val k b == 65533)
def byteV (k u : Int) : Int := match fnd k u with | some i => (i : Int) | none => 0
def byteB (k u : Int) : Bool := (fnd k u).isSome
def flat (k : Int) : List Int := (List.range 256).map (val k)

theorem isK_iff (k : Int) : isK k = true ↔ k = 70 ∨ k = 71 ∨ k = 72 := by simp [isK, or_assoc]
theorem isK_no (k : Int) (h : isK k = false) : k ≠ 70 ∧ k ≠ 71 ∧ k ≠ 72 := by simpa [isK, and_assoc] using h
theorem tab_len (k : Int) (h : isK k = true) : (tab k).length = 256 := by
  rcases (isK_iff k).1 h with rfl | rfl | rfl <;> decide +kernel
/-- each number of a list is one of 16 bits -/
theorem tab_bd : ∀ k : Int, isK k = true → ∀ b < 256, 0 ≤ val k b ∧ val k b ≤ 65535 := by
  intro k h
  rcases (isK_iff k).1 h with rfl | rfl | rfl <;> decide +kernel
theorem fndF_hit {k u : Int} {n i : Nat} (h : val k i = u) : fndF k u (n + 1) i = some i := by simp [fndF, h]
theorem fndF_miss {k u : Int} {n i : Nat} (h : val k i ≠ u) : fndF k u (n + 1) i = fndF k u n (i + 1) := by simp [fndF, h]
theorem val_low (k : Int) (h : isK k = true) : ∀ b < 0, val k b = (b : Int) := by
  rcases (isK_iff k).1 h with rfl | rfl | rfl <;> decide +kernel
theorem fnd_eq {k u : Int} (hk : isK k = true) (hu : u ≠ 65533) : fnd k u = fndF k u 256 0 := by
  unfold fnd
  rw [if_neg]
  rintro (h | h)
  · rw [hk] at h; cases h
  · exact hu h
theorem fnd_none {k u : Int} (h : isK k = false ∨ u = 65533) : fnd k u = none := by
  unfold fnd
  rw [if_pos h]
theorem byte_some {k u : Int} {j : Nat} (h : fnd k u = some j) : byteV k u = (j : Int) ∧ byteB k u = true := by
  unfold byteV byteB
  rw [h]
  exact ⟨rfl, rfl⟩
theorem byte_none {k u : Int} (h : fnd k u = none) : byteV k u = 0 ∧ byteB k u = false := by
  unfold byteV byteB
  rw [h]
  exact ⟨rfl, rfl⟩
theorem scal_yes {k : Int} {b : Nat} (hk : isK k = true) (hv : val k b ≠ 65533) : scalV k b = val k b ∧ scalB k b = true := by
  have h : (isK k && !(val k b == 65533)) = true := by rw [hk, beq_eq_false_iff_ne.2 hv]; rfl
  unfold scalV scalB
  rw [h]
  exact ⟨rfl, rfl⟩
theorem scal_of {k : Int} {b : Nat} (h : scalB k b = true) : isK k = true ∧ val k b ≠ 65533 := by
  unfold scalB at h
  rw [Bool.and_eq_true] at h
  refine ⟨h.1, fun e => ?_⟩
  rw [e] at h
  exact absurd h.2 (by decide)
/-- a digit of sixteen, and four of them -/
def hexd (n : Nat) : UInt8 := if n < 10 then UInt8.ofNat (48 + n) else UInt8.ofNat (55 + n)
def hexs (l : List Int) : List UInt8 := l.flatMap fun v => [hexd (v.toNat / 4096), hexd (v.toNat / 256 % 16), hexd (v.toNat / 16 % 16), hexd (v.toNat % 16)]
/-- the reference's list of a kind: four digits a byte -/
def str (k : Int) : ByteArray := ⟨(hexs ((tab k).drop 0)).toArray⟩
/-- what a digit counts -/
def dig (c : Int) : Int := if 65 ≤ c then c - 65 + 10 else if 48 ≤ c then c - 48 else c + 208
def byteAt (k : Int) (i : Nat) : Int := (((hexs ((tab k).drop 0)).getD i 0).toNat : Int)
theorem dig_bd (c : Int) (h : 0 ≤ c ∧ c ≤ 255) : 0 ≤ dig c ∧ dig c ≤ 255 := by unfold dig; split <;> (try split) <;> omega
theorem hexs_cons (v : Int) (l : List Int) : hexs (v :: l) = hexd (v.toNat / 4096) :: hexd (v.toNat / 256 % 16) :: hexd (v.toNat / 16 % 16) :: hexd (v.toNat % 16) :: hexs l := rfl
theorem hexs_len (l : List Int) : (hexs l).length = 4 * l.length := by
  induction l with
  | nil => rfl
  | cons v l ih => rw [hexs_cons]; simp [ih]; omega
theorem hexs_at (l : List Int) : ∀ i, i < l.length → (hexs l).getD (4 * i) 0 = hexd ((l.getD i 0).toNat / 4096) ∧ (hexs l).getD (4 * i + 1) 0 = hexd ((l.getD i 0).toNat / 256 % 16) ∧
    (hexs l).getD (4 * i + 2) 0 = hexd ((l.getD i 0).toNat / 16 % 16) ∧ (hexs l).getD (4 * i + 3) 0 = hexd ((l.getD i 0).toNat % 16) := by
  induction l with
  | nil => intro i h; simp at h
  | cons v l ih =>
    intro i h
    cases i with
    | zero => rw [hexs_cons]; exact ⟨rfl, rfl, rfl, rfl⟩
    | succ i =>
      rw [hexs_cons, show 4 * (i + 1) = 4 * i + 4 by omega]
      exact ih i (by simpa using h)
theorem dig_hexd : ∀ n < 16, dig ((hexd n).toNat : Int) = (n : Int) := by decide
theorem tab_drop_len (k : Int) (h : isK k = true) : ((tab k).drop 0).length = 256 := by simp [tab_len k h]
theorem str_size (k : Int) (h : isK k = true) : (str k).size = 4 * 256 := by
  show (hexs ((tab k).drop 0)).toArray.size = _
  rw [List.size_toArray, hexs_len, tab_drop_len k h]
theorem str_no (k : Int) (h : isK k = false) : str k = ByteArray.empty := by
  have hn := isK_no k h
  have ht : tab k = [] := by simp [tab, hn]
  simp only [str, ht]
  rfl
theorem at_says (k : Int) (h : isK k = true) (i : Nat) (hi : i < 256) : 4096 * dig (byteAt k (4 * i)) + 256 * dig (byteAt k (4 * i + 1)) + 16 * dig (byteAt k (4 * i + 2)) + dig (byteAt k (4 * i + 3)) = val k (i + 0) := by
  obtain ⟨h1, h2, h3, h4⟩ := hexs_at ((tab k).drop 0) i (by rw [tab_drop_len k h]; exact hi)
  have hb := tab_bd k h (i + 0) (by omega)
  have hv : ((tab k).drop 0).getD i 0 = val k (i + 0) := by
    have hl := tab_len k h
    simp only [val, List.getD, List.getElem?_drop]
    rw [Nat.add_comm, List.getElem?_eq_getElem (by omega)]
    rfl
  rw [hv] at h1 h2 h3 h4
  simp only [byteAt]
  rw [h1, h2, h3, h4, dig_hexd _ (by omega), dig_hexd _ (by omega), dig_hexd _ (by omega), dig_hexd _ (by omega)]
  omega
theorem byteAt_bd (k : Int) (i : Nat) : 0 ≤ byteAt k i ∧ byteAt k i ≤ 255 := by
  have := ((hexs ((tab k).drop 0)).getD i 0).toNat_lt
  unfold byteAt
  omega
theorem byteAt_str (k : Int) (i : Nat) (h : i < (str k).size) : byteAt k i = ((str k)[i].toNat : Int) := by
  unfold byteAt
  congr 1
  congr 1
  have h' : i < (hexs ((tab k).drop 0)).length := h
  show (hexs ((tab k).drop 0)).getD i 0 = (hexs ((tab k).drop 0)).toArray[i]
  rw [List.getD_eq_getElem?_getD, List.getElem?_eq_getElem h']
  rfl
end Go.Proofs.Ytnjackgfodpnjaa
