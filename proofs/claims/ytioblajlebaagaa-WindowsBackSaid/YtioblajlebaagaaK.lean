/- The walks of the statements' probe and of their list of kinds; and what a byte's scalar and a scalar's byte are to each other, in plain terms. -/
import Derived.Test.YtioblajlebaagaaL
namespace Go.Proofs.Ytioblajlebaagaa
open Go.RowKit

theorem fndF_some {k u : Int} : ∀ (n i j : Nat), fndF k u n i = some j → i ≤ j ∧ j < i + n ∧ val k j = u := by
  intro n
  induction n with
  | zero => intro i j h; simp [fndF] at h
  | succ n ih =>
    intro i j h
    simp only [fndF] at h
    by_cases hv : val k i = u
    · rw [if_pos hv] at h
      obtain rfl : i = j := by simpa using h
      exact ⟨Nat.le_refl _, by omega, hv⟩
    · rw [if_neg hv] at h
      have := ih (i + 1) j h
      exact ⟨by omega, by omega, this.2.2⟩
theorem fndF_le {k u : Int} : ∀ (n i m : Nat), i ≤ m → m < i + n → val k m = u → ∃ j, j ≤ m ∧ fndF k u n i = some j := by
  intro n
  induction n with
  | zero => intro i m h1 h2 _; omega
  | succ n ih =>
    intro i m h1 h2 hv
    by_cases hi : val k i = u
    · exact ⟨i, h1, fndF_hit hi⟩
    · have hne : i ≠ m := fun e => hi (e ▸ hv)
      obtain ⟨j, hj, h⟩ := ih (i + 1) m (by omega) (by omega) hv
      exact ⟨j, hj, by rw [fndF_miss hi]; exact h⟩
/-- what a scalar's byte is -/
theorem byte_is {k u : Int} (h : byteB k u = true) : ∃ j : Nat, byteV k u = (j : Int) ∧ j < 256 ∧ scalB k j = true ∧ scalV k j = u := by
  cases hf : fnd k u with
  | none => rw [(byte_none hf).2] at h; cases h
  | some j =>
    have hc : ¬ (isK k = false ∨ u = 65533) := fun hc => by rw [fnd_none hc] at hf; cases hf
    obtain ⟨hk, hu⟩ := not_or.1 hc
    have hk' : isK k = true := by simpa using hk
    rw [fnd_eq hk' hu] at hf
    obtain ⟨_, hj, hv⟩ := fndF_some _ _ _ hf
    obtain ⟨s1, s2⟩ := scal_yes (b := j) hk' (by rw [hv]; exact hu)
    exact ⟨j, (byte_some ((fnd_eq hk' hu).trans hf)).1, by omega, s2, s1.trans hv⟩
/-- the byte of a byte's scalar -/
theorem byte_of_scalar {k : Int} {i : Nat} (hi : i < 256) (h : scalB k i = true) :
    byteB k (scalV k i) = true ∧ ∃ j : Nat, byteV k (scalV k i) = (j : Int) ∧ j ≤ i ∧ scalB k j = true ∧ scalV k j = scalV k i := by
  obtain ⟨hk, hv⟩ := scal_of h
  have e := (scal_yes hk hv).1
  rw [e]
  obtain ⟨j, hj, hf⟩ := fndF_le (k := k) (u := val k i) 256 0 i (by omega) (by omega) rfl
  obtain ⟨hV, hB⟩ := byte_some ((fnd_eq hk hv).trans hf)
  obtain ⟨j', hj', _, h1, h2⟩ := byte_is hB
  have : j = j' := by rw [hV] at hj'; omega
  subst this
  exact ⟨hB, j, hV, hj, h1, h2⟩

/-- which kind is taken -/
theorem pick_q (a : Int) (n : Nat) (hn : 0 < n) (hm : n < 1000) : ∃ q : Nat, q < n ∧ wrap64 ((IntKind.u64.wrap a).tmod n) = (q : Int) := by
  have h0 : 0 ≤ IntKind.u64.wrap a := by
    show 0 ≤ a % _
    exact Int.emod_nonneg _ (by decide)
  rw [Int.tmod_eq_emod_of_nonneg h0]
  have h1 := Int.emod_nonneg (IntKind.u64.wrap a) (show (n : Int) ≠ 0 by omega)
  have h2 := Int.emod_lt_of_pos (IntKind.u64.wrap a) (show (0 : Int) < n by omega)
  refine ⟨(IntKind.u64.wrap a % n).toNat, by omega, ?_⟩
  rw [IntWalk.wrap64_in _ ⟨by omega, by omega⟩]
  omega
/-- the kinds in their order -/
def kindOf (q : Nat) : Int := ([40, 41, 50, 51, 52, 53, 54, 55, 56, 57] : List Int).getD q 0
theorem kindOf_is : ∀ q < 10, isK (kindOf q) = true := by decide
def KindsSay (w w' : World) : Prop := Below w.heap.size w w' ∧ (∀ q, q < 10 → w'.cell? ⟨w.heap.size, q, none⟩ = some (.int .i64 (kindOf q)))
theorem kindsSay (w : World) : KindsSay w (w.alloc (.cells ((List.range 10).map fun q => Value.int .i64 (kindOf q)).toArray 3)) := by
  refine ⟨(Below.refl _ _).alloc (Nat.le_refl _) _, fun q hq => ?_⟩
  rw [World.cell?_alloc_at _ _ _ _ rfl]
  simp [List.getElem?_map, List.getElem?_range hq]
set_option maxRecDepth 100000
set_option maxHeartbeats 400000 in
theorem kinds_any (w : World) :
    Calls Try.prog 18 #[] w fun e w' => e = .returned (.slice (some ⟨w.heap.size, 0, none⟩) 10 10) ∧ KindsSay w w' := by
  go_enter Try.func18, Try.ntmps18
  go_wp2_with fail
  go_ret
  exact ⟨rfl, kindsSay w⟩
set_option maxHeartbeats 400000 in
theorem works_any (w : World) :
    Calls Try.prog 17 #[] w fun e w' => e = .returned (.bool true) ∧ Below w.heap.size w w' := by
  have h1 := fun W => scalar_any 40 128 W (by omega)
  rw [show scalV 40 128 = 9472 by decide +kernel, show scalB 40 128 = true by decide +kernel] at h1
  have h2 := fun W => byte_any 40 9472 W
  rw [show byteV 40 9472 = 128 by decide +kernel, show byteB 40 9472 = true by decide +kernel] at h2
  have h3 := fun W => has_any (-1) W
  rw [show isK (-1) = false by decide +kernel] at h3
  have H1 := Lib.hid h1
  have H2 := Lib.hid h2
  have H3 := Lib.hid h3
  clear h1 h2 h3
  go_enter Try.func17, Try.ntmps17
  go_wp2_with fail
  refine (H1.out _).mono ?_
  rintro e w1 ⟨rfl, hb1⟩
  go_wp2_with fail
  refine (H2.out _).mono ?_
  rintro e w2 ⟨rfl, hb2⟩
  go_wp2_with fail
  refine (H3.out _).mono ?_
  rintro e w3 ⟨rfl, hb3⟩
  go_wp2_with fail
  go_ret
  have s1 := hb1.size
  have s2 := hb2.size
  exact ⟨rfl, (hb1.trans (hb2.mono s1)).trans (hb3.mono (by omega))⟩
end Go.Proofs.Ytioblajlebaagaa
