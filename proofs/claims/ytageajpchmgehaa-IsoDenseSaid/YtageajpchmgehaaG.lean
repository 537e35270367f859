/- The walks of the reference's UTF-8: a scalar put, and the text of a list. -/
import Derived.Test.YtageajpchmgehaaE
namespace Go.Proofs.Ytageajpchmgehaa
open Go.RowKit

theorem bcell {W w1 : World} (hb : Below W.heap.size W w1) : (∀ b o, b < W.heap.size → w1.cell? ⟨b, o, none⟩ = W.cell? ⟨b, o, none⟩) ∧ (∀ b o, b < W.heap.size → w1.frozen? ⟨b, o, none⟩ = W.frozen? ⟨b, o, none⟩) :=
  ⟨fun b o h => hb.cell (p := ⟨b, o, none⟩) h, fun b o h => hb.frozen (p := ⟨b, o, none⟩) h⟩
set_option maxRecDepth 100000
set_option maxHeartbeats 400000 in
theorem isScalar (u : Nat) (h : okU u) (w : World) :
    Calls Try.prog 46 #[.int .i32 (u : Int)] w fun e w' => e = .returned (.bool true) ∧ w = w' := by
  unfold okU at h
  by_cases h1 : u < 55296
  · have h1' : (u : Int) < 55296 := by omega
    have h2 : (u : Int) ≤ 1114111 := by omega
    clear h
    go_enter Try.func46, Try.ntmps46
    go_wp2_with fail
    go_ret
    exact ⟨rfl, rfl⟩
  · have h2 : 57343 < (u : Int) := by omega
    have h3 : (u : Int) ≤ 1114111 := by omega
    have h4 : ¬ (u : Int) < 55296 := by omega
    clear h h1
    go_enter Try.func46, Try.ntmps46
    go_wp2_with fail
    go_ret
    exact ⟨rfl, rfl⟩
def PutOf (u : Nat) : Value := .agg #[.int .i64 0, .string (strOfNums (enc u)), .int .i64 0, .int .i64 0, .int .u32 0, .int .i32 0]
theorem conv_bytes {w w1 : World} {v : Value} {xs : List Int} (h : Bytes w v xs w1) : (convert 50 9 v).run Try.prog w1 = .ok (.string (strOfNums xs)) w1 := by
  obtain ⟨_, g, c, rfl, hc⟩ := h
  exact run_convert_bytes_arg (P := Try.prog) w1 50 5 Try.underlying50 Try.underlying5 g 0 xs.length c xs rfl (fun i hi => by rw [Nat.zero_add]; exact hc i hi) 9 Try.underlying9
set_option maxHeartbeats 400000 in
theorem set_1 (u : Nat) (h : okU u) (h1 : u < 128) (w : World) :
    Calls Try.prog 28 #[.int .i32 (u : Int)] w fun e w' => e = .returned (PutOf u) ∧ Below w.heap.size w w' := by
  go_enter Try.func28, Try.ntmps28
  go_wp2_with fail
  refine (isScalar u h _).mono ?_
  rintro e w' ⟨rfl, rfl⟩
  go_wp2_with fail
  refine (bytes_1 u _ h1).mono ?_
  rintro e w1 ⟨v, rfl, hv⟩
  have hcv := conv_bytes hv
  have hb := hv.1
  obtain ⟨hc, hf⟩ := bcell hb
  clear hv
  go_wp2_with fail
  refine bodyPost_ret (v := PutOf u) (by simp [results, Try.results28, go_sem, hc, PutOf]) rfl ⟨rfl, ?_⟩
  exact ((((((((Below.refl _ _).alloc (Nat.le_refl _) _).trans (hb.mono (by simp))).setCell (Nat.le_refl _) _).setCell (Nat.le_refl _) _).setCell (Nat.le_refl _) _).setCell (Nat.le_refl _) _).setCell (Nat.le_refl _) _).setCell (Nat.le_refl _) _
set_option maxHeartbeats 400000 in
theorem set_2 (u : Nat) (h : okU u) (h1 : ¬ u < 128) (h2 : u < 2048) (w : World) :
    Calls Try.prog 28 #[.int .i32 (u : Int)] w fun e w' => e = .returned (PutOf u) ∧ Below w.heap.size w w' := by
  have f1 : (u : Int) ≤ 65535 := by omega
  have f2 : (u : Int) ≤ 2047 := by omega
  have f3 : 127 < (u : Int) := by omega
  go_enter Try.func28, Try.ntmps28
  go_wp2_with fail
  refine (isScalar u h _).mono ?_
  rintro e w' ⟨rfl, rfl⟩
  go_wp2_with fail
  refine (bytes_2 u _ h1 h2).mono ?_
  rintro e w1 ⟨v, rfl, hv⟩
  have hcv := conv_bytes hv
  have hb := hv.1
  obtain ⟨hc, hf⟩ := bcell hb
  clear hv
  go_wp2_with fail
  refine bodyPost_ret (v := PutOf u) (by simp [results, Try.results28, go_sem, hc, PutOf]) rfl ⟨rfl, ?_⟩
  exact ((((((((Below.refl _ _).alloc (Nat.le_refl _) _).trans (hb.mono (by simp))).setCell (Nat.le_refl _) _).setCell (Nat.le_refl _) _).setCell (Nat.le_refl _) _).setCell (Nat.le_refl _) _).setCell (Nat.le_refl _) _).setCell (Nat.le_refl _) _
set_option maxHeartbeats 400000 in
theorem set_3 (u : Nat) (h : okU u) (h1 : ¬ u < 2048) (h2 : u < 65536) (w : World) :
    Calls Try.prog 28 #[.int .i32 (u : Int)] w fun e w' => e = .returned (PutOf u) ∧ Below w.heap.size w w' := by
  have f1 : (u : Int) ≤ 65535 := by omega
  have f2 : 2047 < (u : Int) := by omega
  go_enter Try.func28, Try.ntmps28
  go_wp2_with fail
  refine (isScalar u h _).mono ?_
  rintro e w' ⟨rfl, rfl⟩
  go_wp2_with fail
  refine (bytes_3 u _ h1 h2).mono ?_
  rintro e w1 ⟨v, rfl, hv⟩
  have hcv := conv_bytes hv
  have hb := hv.1
  obtain ⟨hc, hf⟩ := bcell hb
  clear hv
  go_wp2_with fail
  refine bodyPost_ret (v := PutOf u) (by simp [results, Try.results28, go_sem, hc, PutOf]) rfl ⟨rfl, ?_⟩
  exact ((((((((Below.refl _ _).alloc (Nat.le_refl _) _).trans (hb.mono (by simp))).setCell (Nat.le_refl _) _).setCell (Nat.le_refl _) _).setCell (Nat.le_refl _) _).setCell (Nat.le_refl _) _).setCell (Nat.le_refl _) _).setCell (Nat.le_refl _) _
theorem set_any (u : Nat) (h : okU u) (w : World) :
    Calls Try.prog 28 #[.int .i32 (u : Int)] w fun e w' => e = .returned (PutOf u) ∧ Below w.heap.size w w' := by
  by_cases h1 : u < 128
  · exact set_1 u h h1 w
  · by_cases h2 : u < 2048
    · exact set_2 u h h1 h2 w
    · exact set_3 u h h2 (by unfold okU at h; omega) w
/-- a list of scalars, as the cells of a slice -/
theorem take_str (l : List Nat) (i : Nat) (h : i < l.length) : strOfNums (encs (l.take i)) ++ strOfNums (enc l[i]) = strOfNums (encs (l.take (i + 1))) := by rw [str_append, encs_succ l i h]
theorem ret_str {a b : ByteArray} (h : a = b) : Ending.returned (.string a) = .returned (.string b) := by rw [h]
set_option maxHeartbeats 400000 in
theorem text_any (l : List Nat) (g c : Nat) (w : World) (hl : ∀ u ∈ l, okU u) (hn : l.length ≤ 256) (hg : g < w.heap.size) (hc : ∀ j, (hj : j < l.length) → w.cell? ⟨g, j, none⟩ = some (.int .i32 ((l[j] : Nat) : Int))) :
    Calls Try.prog 20 #[.slice (some ⟨g, 0, none⟩) l.length c] w fun e w' => e = .returned (.string (strOfNums (encs l))) ∧ Below w.heap.size w w' := by
  have hfd : ∀ (W : World) (x : ByteArray), (Instr.field 58 (.agg #[.int .i64 0, .string x, .int .i64 0, .int .i64 0, .int .u32 0, .int .i32 0]) 1).run Try.prog W = .ok (.string x) W := fun _ _ => by kernel_rfl
  go_enter Try.func20, Try.ntmps20
  go_wp2_with fail
  go_loopw [3, 4] (fun s i wr => ∃ n : Nat, n ≤ l.length ∧ i = .int .i64 n ∧ s = .string (strOfNums (encs (l.take n))) ∧ Below w.heap.size w wr) (fun _ i _ => l.length - (intOf i).toNat)
  case atStart => exact ⟨0, by omega, rfl, rfl, Below.refl _ _⟩
  case round =>
    obtain ⟨n, hle, rfl, rfl, hb⟩ := hrel
    by_cases hlt : n < l.length
    · have hcell : wr.cell? ⟨g, n, none⟩ = some (.int .i32 ((l[n] : Nat) : Int)) := (hb.cell (p := ⟨g, n, none⟩) hg).trans (hc n hlt)
      have ho := hl _ (List.getElem_mem hlt)
      have hts := Lib.hid (take_str l n hlt)
      have hsz := strOfNums_size (encs (l.take n))
      have hsz2 := strOfNums_size (enc l[n])
      have hm1 := encs_le (l.take n)
      have hm2 := (enc_len l[n]).2
      have hm3 : (l.take n).length ≤ n := List.length_take_le _ _
      clear hc hl
      go_wp2_with fail
      refine (set_any l[n] ho _).mono ?_
      unfold PutOf
      rintro e w1 ⟨rfl, hb1⟩
      have hb' := hb.trans (hb1.mono hb.size)
      clear hb hb1
      go_wp2_with fail
      go_roundw
      case rel => exact ⟨n + 1, by omega, by go_num, by rw [hts.out], hb'⟩
      case measure => simp [intOf]; omega
    · clear hc hl
      go_wp2_with fail
      go_ret
      exact ⟨ret_str (by rw [List.take_of_length_le (by omega)]), hb⟩
end Go.Proofs.Ytageajpchmgehaa
