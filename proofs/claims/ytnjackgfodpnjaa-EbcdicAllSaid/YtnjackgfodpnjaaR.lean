/- The walks of the reference of the layer ebcdic: its list, a digit, what stands for a byte. -/
import Derived.Test.YtnjackgfodpnjaaF
import Derived.Deep.QuietTactic
import Derived.BigQuiet
namespace Go.Proofs.Ytnjackgfodpnjaa
open Go.RowKit

theorem ret_i32 {a b : Int} (h : a = b) : Ending.returned (.int .i32 a) = .returned (.int .i32 b) := by rw [h]
set_option maxRecDepth 100000
set_option maxHeartbeats 400000 in
theorem rlist_yes (k : Int) (h : isK k = true) (w : World) :
    Calls Try.prog 27 #[.int .i64 k] w fun e w' => e = .returned (.string (str k)) ∧ w = w' := by
  rcases (isK_iff k).1 h with rfl | rfl | rfl

  · go_enter Try.func27, Try.ntmps27
    go_wp2_with fail
    go_ret
    exact ⟨by as_aux_lemma => kernel_rfl, rfl⟩
  · go_enter Try.func27, Try.ntmps27
    go_wp2_with fail
    go_ret
    exact ⟨by as_aux_lemma => kernel_rfl, rfl⟩
  · go_enter Try.func27, Try.ntmps27
    go_wp2_with fail
    go_ret
    exact ⟨by as_aux_lemma => kernel_rfl, rfl⟩
set_option maxHeartbeats 400000 in
theorem rlist_no (k : Int) (h : isK k = false) (w : World) :
    Calls Try.prog 27 #[.int .i64 k] w fun e w' => e = .returned (.string ByteArray.empty) ∧ w = w' := by
  have hne := isK_no k h
  clear h
  go_enter Try.func27, Try.ntmps27
  go_wp2_with fail
  go_ret
  exact ⟨rfl, rfl⟩
set_option maxHeartbeats 400000 in
theorem digit_any (c : Int) (hc : 0 ≤ c ∧ c ≤ 255) (w : World) :
    Calls Try.prog 33 #[.int .u8 c] w fun e w' => e = .returned (.int .i32 (dig c)) ∧ w = w' := by
  obtain ⟨h0, h1⟩ := hc
  unfold dig
  by_cases h65 : 65 ≤ c
  · rw [if_pos h65]
    go_enter Try.func33, Try.ntmps33
    go_wp2_with fail
    go_ret
    exact ⟨rfl, rfl⟩
  · rw [if_neg h65]
    by_cases h48 : 48 ≤ c
    · rw [if_pos h48]
      go_enter Try.func33, Try.ntmps33
      go_wp2_with fail
      go_ret
      exact ⟨rfl, rfl⟩
    · rw [if_neg h48]
      go_enter Try.func33, Try.ntmps33
      go_wp2_with fail
      go_ret
      exact ⟨ret_i32 (by omega), rfl⟩
theorem rhas_any (k : Int) (w : World) :
    Calls Try.prog 17 #[.int .i64 k] w fun e w' => e = .returned (.bool (isK k)) ∧ w = w' := by
  cases h : isK k with
  | false =>
    go_enter Try.func17, Try.ntmps17
    go_wp2_with (go_at_call 27; refine (rlist_no k h _).mono ?_; rintro e w' ⟨rfl, rfl⟩)
    go_ret
    exact ⟨rfl, rfl⟩
  | true =>
    have hs : (str k).toList.isEmpty = false := by
      have hz := str_size k h
      rw [ByteArray.toList_eq]
      cases hl : (str k).data.toList with
      | nil =>
        have : (str k).size = 0 := by show (str k).data.size = 0; rw [← Array.length_toList, hl]; rfl
        omega
      | cons => rfl
    go_enter Try.func17, Try.ntmps17
    go_wp2_with (go_at_call 27; refine (rlist_yes k h _).mono ?_; rintro e w' ⟨rfl, rfl⟩)
    go_ret
    exact ⟨rfl, rfl⟩
theorem digit_q (c : Int) (hc : 0 ≤ c ∧ c ≤ 255) (w : World) :
    Calls Try.prog 33 #[.int .u8 c] w fun e w' => e = .returned (.int .i32 (dig c)) ∧ w' = w := (digit_any c hc w).mono fun _ _ h => ⟨h.1, h.2.symm⟩
theorem ext_size (s : ByteArray) (a n : Nat) (h : s.size = n) (ha : a + 4 ≤ n) : 4 ≤ (s.extract a n).size := by
  rw [ByteArray.size_extract]; omega
theorem ext_at (s : ByteArray) (a n j : Nat) (h : s.size = n) (ha : a + 4 ≤ n) (hj : j < 4) : (s.extract a n)[j]'(by have := ext_size s a n h ha; omega) = s[a + j] := by
  rw [ByteArray.getElem_extract]
set_option maxHeartbeats 400000 in
theorem rat_high (k : Int) (j : Nat) (w : World) (hk : isK k = true) (hi : j < 256) :
    Calls Try.prog 26 #[.int .i64 k, .int .i64 ((j : Int))] w fun e w' => e = .returned (.int .i32 (val k (j + 0))) ∧ ∃ n, w' = w.drewN n := by
  have hs := str_size k hk
  obtain ⟨t, ht⟩ : ∃ t, t = (str k).extract (4 * j) (4 * 256) := ⟨_, rfl⟩
  have hz : 4 ≤ t.size := by rw [ht]; exact ext_size _ _ _ hs (by omega)
  have b0 : ((t[0]'(by omega)).toNat : Int) = byteAt k (4 * j) := by rw [byteAt_str k _ (by omega)]; simp only [ht]; rw [ext_at _ _ _ 0 hs (by omega) (by omega)]; rfl
  have b1 : ((t[1]'(by omega)).toNat : Int) = byteAt k (4 * j + 1) := by rw [byteAt_str k _ (by omega)]; simp only [ht]; rw [ext_at _ _ _ 1 hs (by omega) (by omega)]
  have b2 : ((t[2]'(by omega)).toNat : Int) = byteAt k (4 * j + 2) := by rw [byteAt_str k _ (by omega)]; simp only [ht]; rw [ext_at _ _ _ 2 hs (by omega) (by omega)]
  have b3 : ((t[3]'(by omega)).toNat : Int) = byteAt k (4 * j + 3) := by rw [byteAt_str k _ (by omega)]; simp only [ht]; rw [ext_at _ _ _ 3 hs (by omega) (by omega)]
  have ht' : (str k).extract (4 * j) 1024 = t := ht.symm
  clear ht
  have hs' : (str k).size = 1024 := hs
  clear hs
  go_enter Try.func26, Try.ntmps26
  go_wp2_with (go_at_call 27; refine (rlist_yes k hk _).mono ?_; rintro e w' ⟨rfl, rfl⟩)
  have d0 := byteAt_bd k (4 * j)
  have d1 := byteAt_bd k (4 * j + 1)
  have d2 := byteAt_bd k (4 * j + 2)
  have d3 := byteAt_bd k (4 * j + 3)
  have x0 := dig_bd _ d0
  have x1 := dig_bd _ d1
  have x2 := dig_bd _ d2
  have x3 := dig_bd _ d3
  go_quiet ((go_at_call 33; exact Calls.quiet_of_same (digit_q _ (by assumption) _)))
  go_wp2
  go_ret
  exact ⟨ret_i32 (at_says k hk j (by omega)), nq, rfl⟩
theorem rat_any (k : Int) (i : Nat) (w : World) (hk : isK k = true) (hi : i < 256) :
    Calls Try.prog 26 #[.int .i64 k, .int .i64 (i : Int)] w fun e w' => e = .returned (.int .i32 (val k i)) ∧ ∃ n, w' = w.drewN n := by
  exact rat_high k i w hk hi
end Go.Proofs.Ytnjackgfodpnjaa
