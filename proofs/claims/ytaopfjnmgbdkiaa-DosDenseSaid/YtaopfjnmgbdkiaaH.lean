/- The walks of the program's UTF-8 at texts that are well formed: a scalar got, and a whole text found valid. -/
import Derived.Test.YtaopfjnmgbdkiaaG
namespace Go.Proofs.Ytaopfjnmgbdkiaa
open Go.RowKit

set_option maxRecDepth 100000
set_option maxHeartbeats 400000 in
theorem wants_1 (c : Int) (h1 : c < 128) (w : World) :
    Calls Try.prog 40 #[.int .u8 c] w fun e w' => e = .returned (.int .i64 1) ∧ w = w' := by
  go_enter Try.func40, Try.ntmps40
  go_wp2_with fail
  go_ret
  exact ⟨rfl, rfl⟩
set_option maxHeartbeats 400000 in
theorem wants_2 (c : Int) (h0 : 194 ≤ c) (h1 : c < 224) (w : World) :
    Calls Try.prog 40 #[.int .u8 c] w fun e w' => e = .returned (.int .i64 2) ∧ w = w' := by
  have h2 : c ≤ 244 := by omega
  go_enter Try.func40, Try.ntmps40
  go_wp2_with fail
  go_ret
  exact ⟨rfl, rfl⟩
set_option maxHeartbeats 400000 in
theorem wants_3 (c : Int) (h0 : 224 ≤ c) (h1 : c < 240) (w : World) :
    Calls Try.prog 40 #[.int .u8 c] w fun e w' => e = .returned (.int .i64 3) ∧ w = w' := by
  have h2 : c ≤ 244 := by omega
  have h3 : 194 ≤ c := by omega
  go_enter Try.func40, Try.ntmps40
  go_wp2_with fail
  go_ret
  exact ⟨rfl, rfl⟩
set_option maxHeartbeats 400000 in
theorem second_any (a c : Int) (h0 : 128 ≤ c) (h1 : c ≤ 191) (h2 : a = 224 → 160 ≤ c) (h3 : a = 237 → c ≤ 159) (h4 : a < 240) (w : World) :
    Calls Try.prog 41 #[.int .u8 a, .int .u8 c] w fun e w' => e = .returned (.bool true) ∧ w = w' := by
  by_cases e0 : a = 224
  · have h5 := h2 e0
    subst e0
    clear h2 h3
    go_enter Try.func41, Try.ntmps41
    go_wp2_with fail
    go_ret
    exact ⟨rfl, rfl⟩
  · by_cases e1 : a = 237
    · have h5 := h3 e1
      subst e1
      clear h2 h3
      go_enter Try.func41, Try.ntmps41
      go_wp2_with fail
      go_ret
      exact ⟨rfl, rfl⟩
    · have e2 : ¬ a = 240 := by omega
      have e3 : ¬ a = 244 := by omega
      clear h2 h3
      go_enter Try.func41, Try.ntmps41
      go_wp2_with fail
      go_ret
      exact ⟨rfl, rfl⟩
def GotOf (n : Nat) (A : Int) : Value := .agg #[.int .i64 0, .int .i64 n, .int .i64 1, .int .i32 A, .int .i32 0, .int .i64 0, .int .i64 0, .int .u32 0, .int .i32 0]
set_option maxHeartbeats 400000 in
theorem get_1 (g off n c : Nat) (a : Int) (w : World) (hn : 1 ≤ n) (hm : n ≤ 100000) (hg : g < w.heap.size) (_h0 : 0 ≤ a) (h1 : a < 128) (hc : w.cell? ⟨g, off, none⟩ = some (.int .u8 a)) :
    Calls Try.prog 37 #[.slice (some ⟨g, off, none⟩) n c] w fun e w' => (∃ A, e = .returned (GotOf 1 A)) ∧ Below w.heap.size w w' := by
  go_enter Try.func37, Try.ntmps37
  go_wp2_with (go_at_call 40; refine (wants_1 a h1 _).mono ?_; rintro e w' ⟨rfl, rfl⟩)
  refine wp_loop_rounds 1 ?_
  rw [rounds_succ]
  go_wp2_with fail
  refine bodyPost_ret (v := GotOf 1 a) (by simp [results, Try.results37, go_sem, GotOf]) rfl ⟨⟨a, rfl⟩, ?_⟩
  exact (Below.refl _ _).alloc (Nat.le_refl _) _
set_option maxHeartbeats 400000 in
theorem get_2 (g off n c : Nat) (a b : Int) (w : World) (hn : 2 ≤ n) (hm : n ≤ 100000) (hg : g < w.heap.size) (h0 : 194 ≤ a) (h1 : a < 224) (g0 : 128 ≤ b) (g1 : b ≤ 191)
    (hc : w.cell? ⟨g, off, none⟩ = some (.int .u8 a)) (hd : w.cell? ⟨g, off + 1, none⟩ = some (.int .u8 b)) :
    Calls Try.prog 37 #[.slice (some ⟨g, off, none⟩) n c] w fun e w' => (∃ A, e = .returned (GotOf 2 A)) ∧ Below w.heap.size w w' := by
  have hq : b / 64 = 2 := by omega
  go_enter Try.func37, Try.ntmps37
  go_wp2_with (go_at_call 40; refine (wants_2 a h0 h1 _).mono ?_; rintro e w' ⟨rfl, rfl⟩)
  refine wp_loop_rounds 2 ?_
  rw [rounds_succ]
  go_wp2_with (go_at_call 41; refine (second_any a b g0 g1 (by omega) (by omega) (by omega) _).mono ?_; rintro e w' ⟨rfl, rfl⟩)
  rw [rounds_succ]
  go_wp2_with fail
  refine bodyPost_ret (v := GotOf 2 (bits BinOp.or IntKind.i32 (wrap32 (bits BinOp.and IntKind.i32 a 31 * 64)) (b % 64))) (by simp [results, Try.results37, go_sem, GotOf]) rfl ⟨⟨_, rfl⟩, ?_⟩
  exact (Below.refl _ _).alloc (Nat.le_refl _) _
set_option maxHeartbeats 600000 in
theorem get_3 (g off n c : Nat) (a b d : Int) (w : World) (hn : 3 ≤ n) (hm : n ≤ 100000) (hg : g < w.heap.size) (h0 : 224 ≤ a) (h1 : a < 240) (g0 : 128 ≤ b) (g1 : b ≤ 191) (e0 : a = 224 → 160 ≤ b) (e1 : a = 237 → b ≤ 159)
    (k0 : 128 ≤ d) (k1 : d ≤ 191) (hc : w.cell? ⟨g, off, none⟩ = some (.int .u8 a)) (hd : w.cell? ⟨g, off + 1, none⟩ = some (.int .u8 b)) (he : w.cell? ⟨g, off + 2, none⟩ = some (.int .u8 d)) :
    Calls Try.prog 37 #[.slice (some ⟨g, off, none⟩) n c] w fun e w' => (∃ A, e = .returned (GotOf 3 A)) ∧ Below w.heap.size w w' := by
  have hq : b / 64 = 2 := by omega
  have hq2 : d / 64 = 2 := by omega
  have h2 := fun W => second_any a b g0 g1 e0 e1 h1 W
  have H2 := Lib.hid h2
  clear h2 e0 e1
  go_enter Try.func37, Try.ntmps37
  go_wp2_with (go_at_call 40; refine (wants_3 a h0 h1 _).mono ?_; rintro e w' ⟨rfl, rfl⟩)
  refine wp_loop_rounds 3 ?_
  rw [rounds_succ]
  go_wp2_with (go_at_call 41; refine (H2.out _).mono ?_; rintro e w' ⟨rfl, rfl⟩)
  rw [rounds_succ]
  go_wp2_with fail
  rw [rounds_succ]
  go_wp2_with fail
  refine bodyPost_ret (v := GotOf 3 (bits BinOp.or IntKind.i32 (wrap32 (bits BinOp.or IntKind.i32 (wrap32 (bits BinOp.and IntKind.i32 a 15 * 64)) (b % 64) * 64)) (d % 64))) (by simp [results, Try.results37, go_sem, GotOf]) rfl ⟨⟨_, rfl⟩, ?_⟩
  exact (Below.refl _ _).alloc (Nat.le_refl _) _
/-- the i-th unit of a text -/
def Units (w : World) (g : Nat) (l : List Nat) : Prop := g < w.heap.size ∧ ∀ j, j < (encs l).length → w.cell? ⟨g, j, none⟩ = some (.int .u8 ((encs l).getD j 0))
theorem units_below {w w' : World} {g : Nat} {l : List Nat} (h : Units w g l) (hb : Below w.heap.size w w') : Units w' g l :=
  ⟨Nat.lt_of_lt_of_le h.1 hb.size, fun j hj => (hb.cell (p := ⟨g, j, none⟩) h.1).trans (h.2 j hj)⟩
theorem get_unit (g c : Nat) (l : List Nat) (i : Nat) (w : World) (hl : ∀ u ∈ l, okU u) (hn : l.length ≤ 256) (hi : i < l.length) (hu : Units w g l) :
    Calls Try.prog 37 #[.slice (some ⟨g, pos l i, none⟩) ((encs l).length - pos l i) c] w fun e w' => (∃ A, e = .returned (GotOf (enc l[i]).length A)) ∧ Below w.heap.size w w' := by
  have ho := hl _ (List.getElem_mem hi)
  have hp := pos_le l i hi
  have hm := encs_le l
  obtain ⟨hg, hc⟩ := hu
  have hb : ∀ j, j < (enc l[i]).length → w.cell? ⟨g, pos l i + j, none⟩ = some (.int .u8 ((enc l[i]).getD j 0)) := fun j hj => by
    rw [hc _ (by omega), encs_at l i j hi hj]
  generalize l[i] = u at *
  unfold okU at ho
  by_cases h1 : u < 128
  · have e : enc u = [(u : Int)] := by simp [enc, h1]
    rw [e] at hb hp ⊢
    exact get_1 g _ _ c (u : Int) w (by simp at hp; omega) (by omega) hg (by omega) (by omega) (hb 0 (by simp))
  · by_cases h2 : u < 2048
    · have e : enc u = [192 + (u : Int) / 64, 128 + (u : Int) % 64] := by simp [enc, h1, h2]
      rw [e] at hb hp ⊢
      exact get_2 g _ _ c (192 + (u : Int) / 64) (128 + (u : Int) % 64) w (by simp at hp; omega) (by omega) hg (by omega) (by omega) (by omega) (by omega) (hb 0 (by simp)) (hb 1 (by simp))
    · have e : enc u = [224 + (u : Int) / 4096, 128 + (u : Int) / 64 % 64, 128 + (u : Int) % 64] := by simp [enc, h1, h2]
      rw [e] at hb hp ⊢
      exact get_3 g _ _ c (224 + (u : Int) / 4096) (128 + (u : Int) / 64 % 64) (128 + (u : Int) % 64) w (by simp at hp; omega) (by omega) hg (by omega) (by omega) (by omega) (by omega) (by omega) (by omega) (by omega) (by omega) (hb 0 (by simp)) (hb 1 (by simp)) (hb 2 (by simp))
set_option maxHeartbeats 400000 in
theorem valid_any (g c : Nat) (l : List Nat) (w : World) (hl : ∀ u ∈ l, okU u) (hn : l.length ≤ 256) (hcap : (encs l).length ≤ c) (hu : Units w g l) :
    Calls Try.prog 27 #[.slice (some ⟨g, 0, none⟩) (encs l).length c] w fun e w' => e = .returned (.tuple #[.int .i64 (encs l).length, .bool true]) ∧ Below w.heap.size w w' := by
  have hm := encs_le l
  go_enter Try.func27, Try.ntmps27
  go_wp2_with fail
  go_loopw [4] (fun p wr => ∃ i : Nat, i ≤ l.length ∧ p = .int .i64 (pos l i) ∧ Below w.heap.size w wr) (fun p _ => (encs l).length - (intOf p).toNat)
  case atStart => exact ⟨0, by omega, rfl, Below.refl _ _⟩
  case round =>
    obtain ⟨i, hi, rfl, hb⟩ := hrel
    by_cases hlt : i < l.length
    · have hp := pos_le l i hlt
      have hsucc := Lib.hid (pos_succ l i hlt)
      obtain ⟨hz1, hz2⟩ := enc_len l[i]
      have hur := Lib.hid (units_below hu hb)
      have hl' := Lib.hid hl
      clear hu hl
      have q1 : pos l i < c := by omega
      go_wp2_with fail
      refine (get_unit g _ l i _ hl'.out hn hlt hur.out).mono ?_
      rintro e w1 ⟨⟨A, rfl⟩, hb1⟩
      have hb' := hb.trans (hb1.mono hb.size)
      clear hb hb1
      unfold GotOf
      go_wp2_with fail
      go_roundw
      case rel => exact ⟨i + 1, by omega, by rw [hsucc.out]; go_num, hb'.alloc (by have := hb'.size; omega) _⟩
      case measure => simp [intOf]; omega
    · obtain rfl : i = l.length := by omega
      rw [pos_end]
      clear hu hl
      go_wp2_with fail
      go_ret2
      exact ⟨rfl, hb⟩
end Go.Proofs.Ytaopfjnmgbdkiaa
