/- The walks of the reference's UTF-8, for scalars below 10000 (hexadecimal): a scalar's bytes, and a list's text. -/
import Derived.Test.YtaopfjnmgbdkiaaL
import Derived.Test.YtaopfjnmgbdkiaaU
import Derived.Laws.AppendOwnNone
namespace Go.Proofs.Ytaopfjnmgbdkiaa
open Go.RowKit

theorem Try.info8 : (Try.prog.info? 5).map (fun i => (i.zero, i.size, i.bytes)) = some (some (.int .u8 0), 1, 1) := by kernel_rfl
/-- a new slice of bytes -/
def Bytes (w : World) (v : Value) (xs : List Int) (w' : World) : Prop :=
  Below w.heap.size w w' ∧ ∃ g c, v = .slice (some ⟨g, 0, none⟩) xs.length c ∧ ∀ j, j < xs.length → w'.cell? ⟨g, j, none⟩ = some (.int .u8 (xs.getD j 0))
theorem bytes_own {w w' : World} {v : Value} {n : Nat} {xs : List Int} (hn : 0 < xs.length) (hx : xs.length = n) (hb : Below w.heap.size w w') (h : w'.ownsRow w.heap.size 5 1 v n (xs.map (Value.int .u8))) : Bytes w v xs w' := by
  subst hx
  rcases h.2 with ⟨_, h0⟩ | ⟨g, c, cur, rfl, _⟩
  · omega
  · refine ⟨hb, g, c, rfl, fun j hj => ?_⟩
    rw [h.cellAt j (by omega), List.getElem?_map, List.getElem?_eq_getElem hj, List.getD_eq_getElem?_getD, List.getElem?_eq_getElem hj]
    rfl
/-- a literal of one byte, as a row of the call's own -/
theorem own_lit {w : World} {base : Nat} {g : Nat} (x : Value) (hb : base ≤ w.heap.size) (hg : g = w.heap.size) :
    (w.alloc (.cells #[x] 5)).ownsRow base 5 1 (.slice (some ⟨g, 0, none⟩) 1 1) 1 [x] := by
  subst hg
  exact World.ownsRow_lit w #[x] 1 hb (by unfold maxLen; omega) rfl
/-- the last block but one, a byte -/
theorem cell_second (w : World) (x : Value) (t : TypeId) (y : Array Value) (t' : TypeId) (j : Nat) (z : Value) (hj : [x][j]? = some z) :
    ((w.alloc (.cells #[x] t)).alloc (.cells y t')).cell? ((⟨w.heap.size, 0, none⟩ : Addr).add j) = some z := by
  have h := cell_one_new w x t j z hj
  rw [World.cell?_of_block (w := w.alloc (.cells #[x] t)) (Below.heap_alloc _ _ _ (by simp [Addr.add]; split <;> simp))]
  exact h
set_option maxRecDepth 100000
set_option maxHeartbeats 400000 in
theorem bytes_1 (u : Nat) (w : World) (hu : u < 128) :
    Calls Try.prog 39 #[.int .i32 (u : Int), .int .i64 1] w fun e w' => ∃ v, e = .returned v ∧ Bytes w v (enc u) w' := by
  have e : enc u = [(u : Int)] := by simp [enc, hu]
  rw [e]
  clear e
  go_enter Try.func39, Try.ntmps39
  go_wp2_with fail
  go_ret
  exact ⟨_, rfl, bytes_own (xs := [(u : Int)]) (by simp) rfl ((Below.refl _ _).alloc (Nat.le_refl _) _) (World.ownsRow_lit w #[.int .u8 (u : Int)] 1 (Nat.le_refl _) (by unfold maxLen; omega) rfl)⟩
set_option maxHeartbeats 400000 in
theorem bytes_2 (u : Nat) (w : World) (h1 : ¬ u < 128) (h2 : u < 2048) :
    Calls Try.prog 39 #[.int .i32 (u : Int), .int .i64 2] w fun e w' => ∃ v, e = .returned v ∧ Bytes w v (enc u) w' := by
  have e : enc u = [192 + (u : Int) / 64, 128 + (u : Int) % 64] := by simp [enc, h1, h2]
  rw [e]
  clear e
  obtain ⟨i0, hi, hz0, hz1, hz2⟩ := info_parts Try.info8
  go_enter Try.func39, Try.ntmps39
  go_wp2_with fail
  refine wp_loop_rounds 2 ?_
  rw [rounds_succ]
  go_wp2_with fail
  rw [rounds_succ]
  go_wp2_with ((at_builtin; refine wpList_append_own _ rfl _ _ 50 rfl w.heap.size 5 i0 (.int .u8 0) 1 1 Try.underlying50 hi hz0 hz1 hz2 rfl (by decide) _ 1 [.int .u8 (192 + (u : Int) / 64)] rfl ?own ⟨w.heap.size, 0, none⟩ 1 1 [.int .u8 (128 + (u : Int) % 64)] rfl rfl ?c1 ?c2 ?c3 ?c4 ?c5 ?_))
  case own => exact own_lit (.int .u8 (192 + (u : Int) / 64)) (by simp) (by simp)
  case c1 => exact fun j x hj => cell_second w _ _ _ _ j x hj
  case c2 => intro x hx; simp at hx; subst hx; rfl
  case c3 => unfold maxLen; omega
  case c4 => omega
  case c5 => simp; omega
  intro v' w1 hown hgrow _
  go_wp2_with fail
  go_ret
  exact ⟨_, rfl, bytes_own (xs := [192 + (u : Int) / 64, 128 + (u : Int) % 64]) (by simp) rfl (((Below.refl _ _).alloc (Nat.le_refl _) _ |>.alloc (by simp) _).grown hgrow (by simp; omega) (fun k hk => by simp [Value.ownBlock] at hk; omega)) hown⟩
/-- an owned row of two, cell by cell, behind one block more -/
theorem own_two {w : World} {base : Nat} {v : Value} {x y : Value} (h : w.ownsRow base 5 1 v 2 [x, y]) :
    ∃ g c, v = .slice (some ⟨g, 0, none⟩) 2 c ∧ base ≤ g ∧ g < w.heap.size ∧ ∀ o j z, [x, y][j]? = some z → (w.alloc o).cell? ((⟨g, 0, none⟩ : Addr).add j) = some z := by
  have h' := h
  rcases h.2 with ⟨_, h0⟩ | ⟨g, c, cur, rfl, hb, hg, _⟩
  · omega
  · have hlt := (Array.getElem?_eq_some_iff.1 hg).1
    refine ⟨g, c, rfl, hb, hlt, fun o j z hz => ?_⟩
    rw [World.cell?_of_block (w := w) (Below.heap_alloc _ _ _ (by simp [Addr.add]; split <;> simpa using hlt))]
    exact h'.cells rfl j z hz
set_option maxHeartbeats 400000 in
theorem bytes_3 (u : Nat) (w : World) (h1 : ¬ u < 2048) (h2 : u < 65536) :
    Calls Try.prog 39 #[.int .i32 (u : Int), .int .i64 3] w fun e w' => ∃ v, e = .returned v ∧ Bytes w v (enc u) w' := by
  have e : enc u = [224 + (u : Int) / 64 / 64, 128 + (u : Int) / 64 % 64, 128 + (u : Int) % 64] := by
    have h3 : ¬ u < 128 := by omega
    simp [enc, h1, h3]
    omega
  rw [e]
  clear e
  obtain ⟨i0, hi, hz0, hz1, hz2⟩ := info_parts Try.info8
  go_enter Try.func39, Try.ntmps39
  go_wp2_with fail
  refine wp_loop_rounds 3 ?_
  rw [rounds_succ]
  go_wp2_with fail
  rw [rounds_succ]
  go_wp2_with ((at_builtin; refine wpList_append_own _ rfl _ _ 50 rfl w.heap.size 5 i0 (.int .u8 0) 1 1 Try.underlying50 hi hz0 hz1 hz2 rfl (by decide) _ 1 [.int .u8 (128 + (u : Int) / 64 % 64)] rfl ?own ⟨w.heap.size, 0, none⟩ 1 1 [.int .u8 (128 + (u : Int) % 64)] rfl rfl ?c1 ?c2 ?c3 ?c4 ?c5 ?_))
  case own => exact own_lit (.int .u8 (128 + (u : Int) / 64 % 64)) (by simp) (by simp)
  case c1 => exact fun j x hj => cell_second w _ _ _ _ j x hj
  case c2 => intro x hx; simp at hx; subst hx; rfl
  case c3 => unfold maxLen; omega
  case c4 => omega
  case c5 => simp; omega
  intro v1 w1 hown1 hgrow1 _
  obtain ⟨g, c, rfl, hg0, hg1, hcell⟩ := own_two hown1
  have hb1 := ((Below.refl w.heap.size w).alloc (Nat.le_refl _) _ |>.alloc (by simp) _).grown hgrow1 (by simp; omega) (fun k hk => by simp [Value.ownBlock] at hk; omega)
  have HC := Lib.hid hcell
  clear hown1 hgrow1 hcell
  have s1 := hb1.size
  go_wp2_with fail
  rw [rounds_succ]
  go_wp2_with ((at_builtin; refine wpList_append_own _ rfl _ _ 50 rfl w.heap.size 5 i0 (.int .u8 0) 1 1 Try.underlying50 hi hz0 hz1 hz2 rfl (by decide) _ 1 [.int .u8 (224 + (u : Int) / 64 / 64)] rfl ?own2 ⟨g, 0, none⟩ 2 c [.int .u8 (128 + (u : Int) / 64 % 64), .int .u8 (128 + (u : Int) % 64)] rfl rfl ?d1 ?d2 ?d3 ?d4 ?d5 ?_))
  case own2 => exact own_lit (.int .u8 (224 + (u : Int) / 64 / 64)) s1 rfl
  case d1 => exact fun j x hj => HC.out _ j x hj
  case d2 => intro x hx; simp at hx; rcases hx with rfl | rfl <;> rfl
  case d3 => unfold maxLen; omega
  case d4 => omega
  case d5 => simp; omega
  intro v2 w2 hown2 hgrow2 _
  go_wp2_with fail
  go_ret
  exact ⟨_, rfl, bytes_own (xs := [224 + (u : Int) / 64 / 64, 128 + (u : Int) / 64 % 64, 128 + (u : Int) % 64]) (by simp) rfl ((hb1.alloc s1 _).grown hgrow2 (by simp; omega) (fun k hk => by simp [Value.ownBlock] at hk; omega)) hown2⟩
end Go.Proofs.Ytaopfjnmgbdkiaa
