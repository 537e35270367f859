/- The walks of the reference of the layer windows: a byte's scalar, a scalar's byte, a kind's list; and whether two lists are the same. -/
import Derived.Test.YtioblajlebaagaaR
namespace Go.Proofs.Ytioblajlebaagaa
open Go.RowKit

theorem below_drewN {B : Nat} {a w : World} (h : Below B a w) (n : Nat) : Below B a (w.drewN n) := ⟨h.os, h.tape, h.output, h.size, h.block⟩
set_option maxRecDepth 100000
set_option maxHeartbeats 400000 in
theorem rscalar_any (k : Int) (b : Nat) (w : World) (hb : b < 256) :
    Calls Try.prog 12 #[.int .i64 k, .int .u8 (b : Int)] w fun e w' => e = .returned (.tuple #[.int .i32 (scalV k b), .bool (scalB k b)]) ∧ Below w.heap.size w w' := by
  cases hk : isK k with
  | false =>
    simp only [scalV, scalB, hk, Bool.false_and, Bool.false_eq_true, if_false]
    go_enter Try.func12, Try.ntmps12
    go_wp2_with fail
    refine (rhas_any k _).mono ?_
    rw [hk]
    rintro e w' ⟨rfl, rfl⟩
    go_wp2_with fail
    go_ret2
    exact ⟨rfl, Below.refl _ _⟩
  | true =>
    cases hv : (val k b == 65533) with
    | true =>
      simp only [scalV, scalB, hk, hv, Bool.not_true, Bool.and_false, Bool.false_eq_true, if_false]
      have hv' : val k b = 65533 := by simpa using hv
      go_enter Try.func12, Try.ntmps12
      go_wp2_with fail
      refine (rhas_any k _).mono ?_
      rw [hk]
      rintro e w' ⟨rfl, rfl⟩
      go_wp2_with fail
      refine (rat_any k b _ hk hb).mono ?_
      rintro e w' ⟨rfl, n, rfl⟩
      go_wp2_with fail
      go_ret2
      exact ⟨rfl, below_drewN (Below.refl _ _) _⟩
    | false =>
      simp only [scalV, scalB, hk, hv, Bool.not_false, Bool.and_true, if_true]
      go_enter Try.func12, Try.ntmps12
      go_wp2_with fail
      refine (rhas_any k _).mono ?_
      rw [hk]
      rintro e w' ⟨rfl, rfl⟩
      go_wp2_with fail
      refine (rat_any k b _ hk hb).mono ?_
      rintro e w' ⟨rfl, n, rfl⟩
      go_wp2_with fail
      refine (rat_any k b _ hk hb).mono ?_
      rintro e w' ⟨rfl, n', rfl⟩
      go_wp2_with fail
      go_ret2
      exact ⟨rfl, below_drewN (Below.refl _ _) _⟩
set_option maxHeartbeats 400000 in
theorem rbyte_any (k u : Int) (w : World) :
    Calls Try.prog 14 #[.int .i64 k, .int .i32 u] w fun e w' => e = .returned (.tuple #[.int .u8 (byteV k u), .bool (byteB k u)]) ∧ Below w.heap.size w w' := by
  cases hk : isK k with
  | false =>
    rw [(no_kind hk).1, (no_kind hk).2]
    go_enter Try.func14, Try.ntmps14
    go_wp2_with fail
    refine (rhas_any k _).mono ?_
    rw [hk]
    rintro e w' ⟨rfl, rfl⟩
    go_wp2_with fail
    go_ret2
    exact ⟨rfl, Below.refl _ _⟩
  | true =>
    cases hu : (u == 65533) with
    | true =>
      obtain rfl : u = 65533 := by simpa using hu
      rw [no_scalar.1, no_scalar.2]
      go_enter Try.func14, Try.ntmps14
      go_wp2_with fail
      refine (rhas_any k _).mono ?_
      rw [hk]
      rintro e w' ⟨rfl, rfl⟩
      go_wp2_with fail
      go_ret2
      exact ⟨rfl, Below.refl _ _⟩
    | false =>
      go_enter Try.func14, Try.ntmps14
      go_wp2_with fail
      refine (rhas_any k _).mono ?_
      rw [hk]
      rintro e w' ⟨rfl, rfl⟩
      go_wp2_with fail
      go_loopw [6] (fun i wr => ∃ n : Nat, n ≤ 256 ∧ i = .int .i64 n ∧ Rest k u n ∧ Below w.heap.size w wr) (fun i _ => 256 - (intOf i).toNat)
      case atStart => exact ⟨0, by omega, rfl, rest_start hk (by simpa using hu), Below.refl _ _⟩
      case round =>
        obtain ⟨n, hn, rfl, hr, hbl⟩ := hrel
        by_cases hlt : n < 256
        · cases hv : (val k n == u) with
          | true =>
            go_wp2_with fail
            refine (rat_any k n _ hk hlt).mono ?_
            rintro e w' ⟨rfl, m, rfl⟩
            go_wp2_with fail
            go_ret2
            exact ⟨pair_u8 (rest_hit hlt hr (by simpa using hv)), below_drewN hbl _⟩
          | false =>
            have hr' := rest_miss hlt hr (by simpa using hv)
            go_wp2_with fail
            refine (rat_any k n _ hk hlt).mono ?_
            rintro e w' ⟨rfl, m, rfl⟩
            go_wp2_with fail
            go_roundw
            case rel => exact ⟨n + 1, by omega, by go_num, hr', below_drewN hbl _⟩
            case measure => simp [intOf]; omega
        · go_wp2_with fail
          go_ret2
          exact ⟨pair_u8 (rest_end hlt hr), hbl⟩
def RFlatRel (w wr : World) (k : Int) (v : Value) (n : Nat) : Prop := wr.ownsRow w.heap.size 21 1 v n (rowV k n) ∧ Below w.heap.size w wr
theorem rflatRel_next {w wr w1 : World} {k : Int} {v v' : Value} {n m : Nat} {o : Obj} (h : RFlatRel w wr k v n) (ho : w1.ownsRow w.heap.size 21 1 v' (n + 1) (rowV k n ++ [.int .i32 (val k n)]))
    (hg : ((wr.drewN m).alloc o).grownBy w1 v.ownBlock) : RFlatRel w w1 k v' (n + 1) := by
  have hs := h.2.size
  exact ⟨by rw [rowV_succ]; exact ho, ((below_drewN h.2 m).alloc (by simpa using hs) o).grown hg (by simp; omega) (fun j hj => (h.1.lt j hj).1)⟩
set_option maxHeartbeats 400000 in
theorem rflat_any (k : Int) (w : World) :
    Calls Try.prog 9 #[.int .i64 k] w fun e w' => ∃ v, e = .returned v ∧ FlatSays w k v w' := by
  obtain ⟨i0, hi, hz0, hz1, hz2⟩ := info_parts Try.info32
  cases hk : isK k with
  | false =>
    go_enter Try.func9, Try.ntmps9
    go_wp2_with fail
    refine (rhas_any k _).mono ?_
    rw [hk]
    rintro e w' ⟨rfl, rfl⟩
    go_wp2_with fail
    go_ret
    exact ⟨_, rfl, Below.refl _ _, fun _ => rfl, fun h => by simp [hk] at h⟩
  | true =>
    go_enter Try.func9, Try.ntmps9
    go_wp2_with fail
    refine (rhas_any k _).mono ?_
    rw [hk]
    rintro e w' ⟨rfl, rfl⟩
    go_wp2_with fail
    go_loopw [3, 4] (fun v i wr => ∃ n : Nat, n ≤ 256 ∧ i = .int .i64 n ∧ RFlatRel w wr k v n) (fun _ i _ => 256 - (intOf i).toNat)
    case atStart => exact ⟨0, by omega, rfl, World.ownsRow_nil _ _ _ _, Below.refl _ _⟩
    case round =>
      obtain ⟨n, hn, rfl, hr⟩ := hrel
      by_cases hlt : n < 256
      · go_wp2_with fail
        refine (rat_any k n _ hk hlt).mono ?_
        rintro e w' ⟨rfl, m, rfl⟩
        have hown : (wr.drewN m).ownsRow w.heap.size 21 1 u3 n (rowV k n) := hr.1
        go_wp2_with ((at_builtin; refine wpList_append_own _ rfl _ _ 22 rfl w.heap.size 21 i0 (.int .i32 0) 1 4 Try.underlying22 hi hz0 hz1 hz2 rfl (by decide) _ _ _ rfl (hown.alloc _) ⟨wr.heap.size, 0, none⟩ 1 1 [.int .i32 (val k n)] rfl rfl ?c1 ?c2 ?c3 ?c4 ?c5 ?_))
        case c1 => exact cell_one_new (wr.drewN m) _ _
        case c2 => intro u hu; simp at hu; subst hu; rfl
        case c3 => unfold maxLen; omega
        case c4 => omega
        case c5 => have := hr.2.size; simp; omega
        intro v' w1 hown' hgrow _
        have R := rflatRel_next hr hown' hgrow
        clear hown' hgrow hr hown
        go_wp2_with fail
        go_roundw
        case rel => exact ⟨n + 1, by omega, by go_num, R⟩
        case measure => simp [intOf]; omega
      · obtain rfl : n = 256 := by omega
        go_wp2_with fail
        go_ret
        exact ⟨_, rfl, hr.2, fun h' => by simp [hk] at h', fun _ => hr.1⟩
/-- cells of a slice as numbers -/
def Cells (w : World) (g n : Nat) (f : Nat → Int) : Prop := ∀ j, j < n → w.cell? ⟨g, j, none⟩ = some (.int .i32 (f j))
set_option maxHeartbeats 400000 in
theorem same_any (g1 g2 n c1 c2 : Nat) (f : Nat → Int) (w : World) (hn : n ≤ 100000) (h1 : Cells w g1 n f) (h2 : Cells w g2 n f) :
    Calls Try.prog 10 #[.slice (some ⟨g1, 0, none⟩) n c1, .slice (some ⟨g2, 0, none⟩) n c2] w fun e w' => e = .returned (.bool true) ∧ ∃ m, w' = w.drewN m := by
  go_enter Try.func10, Try.ntmps10
  go_wp2_with fail
  go_loopw [5] (fun i wr => ∃ q m : Nat, q ≤ n ∧ i = .int .i64 q ∧ wr = w.drewN m) (fun i _ => n - (intOf i).toNat)
  case atStart => exact ⟨0, 0, by omega, rfl, rfl⟩
  case round =>
    obtain ⟨q, m, hq, rfl, rfl⟩ := hrel
    by_cases hlt : q < n
    · have a1 : w.cell? ⟨g1, q, none⟩ = some (.int .i32 (f q)) := h1 q hlt
      have a2 : w.cell? ⟨g2, q, none⟩ = some (.int .i32 (f q)) := h2 q hlt
      clear h1 h2
      go_wp2_with fail
      go_quiet (fail)
      go_wp2_with fail
      go_roundw
      case rel => exact ⟨q + 1, _, by omega, by go_num, rfl⟩
      case measure => simp [intOf]; omega
    · clear h1 h2
      go_wp2_with fail
      go_ret
      exact ⟨rfl, m, rfl⟩
set_option maxHeartbeats 400000 in
theorem same_nil (w : World) :
    Calls Try.prog 10 #[.slice none 0 0, .slice none 0 0] w fun e w' => e = .returned (.bool true) ∧ ∃ m, w' = w.drewN m := by
  go_enter Try.func10, Try.ntmps10
  go_wp2_with fail
  refine wp_loop_rounds 1 ?_
  rw [rounds_succ]
  go_wp2_with fail
  go_ret
  exact ⟨rfl, 0, rfl⟩
end Go.Proofs.Ytioblajlebaagaa
