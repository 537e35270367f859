/- The walk that makes a table of bytes out of a kind's text. -/
import Derived.Test.YtageajpchmgehaaM
namespace Go.Proofs.Ytageajpchmgehaa
open Go.RowKit Go.Maps

/-- a text as new bytes -/
theorem conv_text (l : List Nat) (hl : ∀ u ∈ l, okU u) (w : World) : ∃ c w1, (convert 9 50 (.string (strOfNums (encs l)))).run Try.prog w = .ok (.slice (some ⟨w.heap.size, 0, none⟩) (encs l).length c) w1 ∧
    (encs l).length ≤ c ∧ Below w.heap.size w w1 ∧ Units w1 w.heap.size l := by
  have hz := strOfNums_size (encs l)
  have hconv := Lib.run_convert_string_bytes (P := Try.prog) w 9 50 5 (strOfNums (encs l)) Try.underlying9 Try.underlying50 Try.underlying5
  rw [hz] at hconv
  refine ⟨_, _, hconv, grownCap_ge _ _ _ _, ⟨rfl, rfl, rfl, by rw [Lib.bytesWorld_size]; omega, fun i hi => Lib.bytesWorld_at_old _ _ _ _ hi⟩, by rw [Lib.bytesWorld_size]; omega, fun j hj => ?_⟩
  rw [Lib.bytesWorld_cell _ _ _ _ (by rw [hz]; exact hj), strOfNums_data]
  have hx := encs_bd l hl _ (List.getElem_mem hj)
  simp only [List.getD_eq_getElem?_getD, List.getElem?_map, List.getElem?_eq_getElem hj, Option.map_some, Option.getD_some, UInt8.toNat_ofNat']
  congr 2
  omega
/-- a slice that is owned, whatever its block -/
theorem own_form {w : World} {base : Nat} {e : TypeId} {v : Value} {n : Nat} {xs : List Value} (h : w.ownsRow base e 1 v n xs) : ∃ A c, v = .slice A n c := by
  rcases h.2 with ⟨rfl, rfl⟩ | ⟨g, c, cur, rfl, _⟩
  · exact ⟨none, 0, rfl⟩
  · exact ⟨_, c, rfl⟩
theorem tab_start {w w2 : World} (hb : Below w.heap.size w w2) (S : ByteArray) (k : Int) :
    Tab w (((w2.alloc (.map #[] 0)).alloc (.cells #[.int .i64 0, .string S, .slice none 0 0, .map (some w2.heap.size)] 53)).alloc (.stringIter S 0)) w2.heap.size S 0 (.slice none 0 0) k 0 0 (.map []) := by
  have hs := hb.size
  refine ⟨hs, ((hb.alloc hs _).alloc (by simp; omega) _).alloc (by simp; omega) _, ?_, ?_, World.ownsRow_nil _ _ _ _, ?_⟩
  · have := heap_alloc_new (((w2.alloc (.map #[] 0)).alloc (.cells #[.int .i64 0, .string S, .slice none 0 0, .map (some w2.heap.size)] 53))) (.stringIter S 0)
    simpa using this
  · rw [Below.heap_alloc _ _ _ (by simp)]
    have := heap_alloc_new (w2.alloc (.map #[] 0)) (.cells #[.int .i64 0, .string S, .slice none 0 0, .map (some w2.heap.size)] 53)
    simpa using this
  · exact ((World.ownsMap_made w2 _ _ _).alloc _).alloc _
set_option maxRecDepth 100000
set_option maxHeartbeats 1000000 in
theorem new_any (k : Int) (w : World) (hk : isK k = true) :
    Calls Try.prog 19 #[.int .i64 0, .string (strOfNums (encs (lst k)))] w fun e w' => ∃ t, e = .returned (.tuple #[.pointer (some ⟨t, 0, none⟩), .int .i64 0]) ∧ Below w.heap.size w w' ∧ Made w' t k := by
  have hl := lst_ok k hk
  have hn := lst_len k hk
  obtain ⟨i0, hi, hz0, hz1, hz2⟩ := info_parts Try.info32
  obtain ⟨c, w1, hconv, hcap, hb1, hu⟩ := conv_text (lst k) hl w
  have hmm := @run_makeMap Try.prog
  have HL := Lib.hid hl
  have HN := Lib.hid hn
  have HU := Lib.hid hu
  clear hl hn hu
  go_enter Try.func19, Try.ntmps19
  go_wp2_with fail
  refine (valid_any _ c (lst k) _ HL.out (by rw [HN.out]; omega) hcap HU.out).mono ?_
  rintro e w2 ⟨rfl, hb2⟩
  have hb := hb1.trans (hb2.mono hb1.size)
  have hstart := tab_start hb (strOfNums (encs (lst k))) k
  have HS := Lib.hid hstart
  clear hstart hconv hcap hb1 hb2 HU
  go_wp2_with fail
  obtain ⟨b, hbb⟩ : ∃ b, w2.heap.size = b := ⟨_, rfl⟩
  have HS' := HS.out
  rw [hbb] at HS' ⊢
  have HZ := Lib.hid HS'
  clear HS' HS hbb hb
  go_loopw [10] (fun _ wr => ∃ (i : Nat) (v : Value) (E : DataW Unit), i ≤ 256 ∧ Tab w wr b (strOfNums (encs (lst k))) (pos (lst k) i) v k i i E ∧ Says E k i) (fun _ wr => (encs (lst k)).length - wr.iterPos (b + 2))
  case atStart => exact ⟨0, _, _, by omega, HZ.out, says_start k⟩
  case round =>
    obtain ⟨i, v, E, hi256, T, hE⟩ := hrel
    clear HZ
    by_cases hlt : i < 256
    · have hil : i < (lst k).length := by rw [HN.out]; exact hlt
      have hple := pos_le (lst k) i hil
      obtain ⟨hl1, _⟩ := enc_len (lst k)[i]
      have hd := decode_enc (lst k) HL.out i hil
      have hnx0 := fun ty => Lib.run_next_any_at (P := Try.prog) wr (b + 2) (strOfNums (encs (lst k))) (pos (lst k) i) ty T.it (by rw [strOfNums_size]; omega)
      rw [hd] at hnx0
      simp only at hnx0
      rw [lst_at k hk i hil, ← pos_succ (lst k) i hil] at hnx0
      have hps := pos_succ (lst k) i hil
      have T1 := T.next (pos (lst k) (i + 1))
      obtain ⟨A, c0, rfl⟩ := own_form T.row
      have hit := T.it
      have HM : Hid ((encs (lst k)).length - pos (lst k) (i + 1) < (encs (lst k)).length - pos (lst k) i) := by show _ < _; omega
      clear T hd hps hple hl1
      have hMW : wr.iterPos (b + 2) = pos (lst k) i := by simp [World.iterPos, hit]
      have HW := Lib.hid hMW
      obtain ⟨W1, hW1⟩ : ∃ W1, wr.iterAt (b + 2) (strOfNums (encs (lst k))) (pos (lst k) (i + 1)) = W1 := ⟨_, rfl⟩
      rw [hW1] at T1 hnx0
      have hnx : ∀ ty, (Instr.next (.pointer (some ⟨b + 1 + 1, 0, none⟩)) true ty).run Try.prog wr = .ok (.tuple #[.bool true, .int .i64 (pos (lst k) i), .int .i32 (val k i)]) W1 := hnx0
      clear hnx0 hit hMW hW1
      have c2 : W1.cell? ⟨b + 1, 2, none⟩ = some (.slice A i c0) := cell_of_row W1 (b + 1) 2 _ _ _ T1.tb
      have hbd := tab_bd k hk i hlt
      have hwf : (Lit.int .i32 (val k i)).wf = true := WalkArith.wf_i32 (by omega)
      have hwf8 : (Lit.int .u8 (i : Int)).wf = true := WalkArith.wf_u8 (by omega)
      have HT := Lib.hid T1
      have hlo : b + 3 ≤ W1.heap.size := (Array.getElem?_eq_some_iff.1 T1.it).1
      clear T1
      have hi255 : (i : Int) ≤ 255 := by omega
      have HE := Lib.hid hE
      clear hE
      cases hh : has E (.int .i32 (val k i)) with
      | true =>
        go_wp2_with ((at_builtin; refine wpList_append_own _ rfl _ _ 22 rfl (b + 3) 21 i0 (.int .i32 0) 1 4 Try.underlying22 hi hz0 hz1 hz2 rfl (by decide) _ _ _ rfl (HT.out.row.alloc _) ⟨W1.heap.size, 0, none⟩ 1 1 [.int .i32 (val k i)] rfl rfl ?c1 ?c2 ?c3 ?c4 ?c5 ?_))
        case c1 => exact cell_one_new W1 _ _
        case c2 => intro x hx; simp at hx; subst hx; rfl
        case c3 => unfold maxLen; omega
        case c4 => omega
        case c5 => simp; omega
        intro v' w3 hown hgrow _
        obtain ⟨A2, c2', rfl⟩ := own_form hown
        obtain ⟨T2, htb⟩ := HT.out.append hown hgrow
        have d2 : w3.cell? ⟨b + 1, 2, none⟩ = some (.slice A i c0) := cell_of_row w3 (b + 1) 2 _ _ _ htb
        have d3 : w3.cell? ⟨b + 1, 3, none⟩ = some (.map (some b)) := cell_of_row w3 (b + 1) 3 _ _ _ htb
        have d4 : w3.frozen? ⟨b + 1, 2, none⟩ = false := frozen_of_row w3 (b + 1) 2 _ _ htb
        have H2 := Lib.hid T2
        clear hown hgrow T2 htb c2 HT
        have HP : Hid (Says E k (i + 1)) := says_skip HE.out (.inl hh)
        go_wp2_with ((at_lookup; refine wpList_lookup_own_ok_int _ rfl _ _ 51 rfl 21 5 .u8 (int_keyed Try.underlying21) Try.underlying51 Try.underlying5 (show (zeroValue 5).run Try.prog _ = .ok (.int .u8 0) _ by kernel_rfl) b i E rfl H2.out.map _ (.int .i32 (val k i)) rfl (keyOf_int_mk Try.underlying21 hwf) ?_; intro cc hat hwc))
        go_roundw
        case rel => exact ⟨i + 1, _, E, by omega, H2.out.more (by omega), HP.out⟩
        case measure =>
          have e1 : (w3.setCell ⟨b + 1, 2, none⟩ (.slice A2 (i + 1) c2')).iterPos (b + 2) = pos (lst k) (i + 1) := by simp [World.iterPos, H2.out.it]
          rw [HW.out, e1]
          exact HM.out
      | false =>
        cases hm : (val k i == 65533) with
        | true =>
          have hm' : val k i = 65533 := by simpa using hm
          have HP : Hid (Says E k (i + 1)) := says_skip HE.out (.inr hm')
          clear hm'
          go_wp2_with ((at_builtin; refine wpList_append_own _ rfl _ _ 22 rfl (b + 3) 21 i0 (.int .i32 0) 1 4 Try.underlying22 hi hz0 hz1 hz2 rfl (by decide) _ _ _ rfl (HT.out.row.alloc _) ⟨W1.heap.size, 0, none⟩ 1 1 [.int .i32 (val k i)] rfl rfl ?c1 ?c2 ?c3 ?c4 ?c5 ?_))
          case c1 => exact cell_one_new W1 _ _
          case c2 => intro x hx; simp at hx; subst hx; rfl
          case c3 => unfold maxLen; omega
          case c4 => omega
          case c5 => simp; omega
          intro v' w3 hown hgrow _
          obtain ⟨A2, c2', rfl⟩ := own_form hown
          obtain ⟨T2, htb⟩ := HT.out.append hown hgrow
          have d2 : w3.cell? ⟨b + 1, 2, none⟩ = some (.slice A i c0) := cell_of_row w3 (b + 1) 2 _ _ _ htb
          have d3 : w3.cell? ⟨b + 1, 3, none⟩ = some (.map (some b)) := cell_of_row w3 (b + 1) 3 _ _ _ htb
          have d4 : w3.frozen? ⟨b + 1, 2, none⟩ = false := frozen_of_row w3 (b + 1) 2 _ _ htb
          have H2 := Lib.hid T2
          clear hown hgrow T2 htb c2 HT
          go_wp2_with ((at_lookup; refine wpList_lookup_own_ok_int _ rfl _ _ 51 rfl 21 5 .u8 (int_keyed Try.underlying21) Try.underlying51 Try.underlying5 (show (zeroValue 5).run Try.prog _ = .ok (.int .u8 0) _ by kernel_rfl) b i E rfl H2.out.map _ (.int .i32 (val k i)) rfl (keyOf_int_mk Try.underlying21 hwf) ?_; intro cc hat hwc))
          go_roundw
          case rel => exact ⟨i + 1, _, E, by omega, H2.out.more (by omega), HP.out⟩
          case measure =>
            have e1 : (w3.setCell ⟨b + 1, 2, none⟩ (.slice A2 (i + 1) c2')).iterPos (b + 2) = pos (lst k) (i + 1) := by simp [World.iterPos, H2.out.it]
            rw [HW.out, e1]
            exact HM.out
        | false =>
          have hm' : val k i ≠ 65533 := by simpa using hm
          have HP : Hid (Says (E.put (.int .i32 (val k i)) (.lit (.int .u8 (i : Int)))) k (i + 1)) := says_put HE.out hh hm'
          have hm2 : (val k i != 65533) = true := by simp [hm']
          clear hm'
          go_wp2_with ((at_builtin; refine wpList_append_own _ rfl _ _ 22 rfl (b + 3) 21 i0 (.int .i32 0) 1 4 Try.underlying22 hi hz0 hz1 hz2 rfl (by decide) _ _ _ rfl (HT.out.row.alloc _) ⟨W1.heap.size, 0, none⟩ 1 1 [.int .i32 (val k i)] rfl rfl ?c1 ?c2 ?c3 ?c4 ?c5 ?_))
          case c1 => exact cell_one_new W1 _ _
          case c2 => intro x hx; simp at hx; subst hx; rfl
          case c3 => unfold maxLen; omega
          case c4 => omega
          case c5 => simp; omega
          intro v' w3 hown hgrow _
          obtain ⟨A2, c2', rfl⟩ := own_form hown
          obtain ⟨T2, htb⟩ := HT.out.append hown hgrow
          have d2 : w3.cell? ⟨b + 1, 2, none⟩ = some (.slice A i c0) := cell_of_row w3 (b + 1) 2 _ _ _ htb
          have d3 : w3.cell? ⟨b + 1, 3, none⟩ = some (.map (some b)) := cell_of_row w3 (b + 1) 3 _ _ _ htb
          have d4 : w3.frozen? ⟨b + 1, 2, none⟩ = false := frozen_of_row w3 (b + 1) 2 _ _ htb
          have H2 := Lib.hid T2
          clear hown hgrow T2 htb c2 HT
          go_wp2_with (first | (at_lookup; refine wpList_lookup_own_ok_int _ rfl _ _ 51 rfl 21 5 .u8 (int_keyed Try.underlying21) Try.underlying51 Try.underlying5 (show (zeroValue 5).run Try.prog _ = .ok (.int .u8 0) _ by kernel_rfl) b i E rfl H2.out.map _ (.int .i32 (val k i)) rfl (keyOf_int_mk Try.underlying21 hwf) ?_; intro cc hat hwc) | (at_mapUpdate; refine wpList_mapUpdate_own _ rfl _ _ _ 51 rfl 21 5 (int_keyed Try.underlying21) Try.underlying51 (plainElem Try.prog 5) b i E rfl H2.out.map ?m1 _ _ (.int .i32 (val k i)) rfl rfl (keyOf_int_mk Try.underlying21 hwf) (.lit (.int .u8 (i : Int))) [] (plainElem_int Try.underlying5 hwf8) ?_))
          case m1 => unfold maxLen; omega
          intro w4 hown4 hgrow4
          have H4 := Lib.hid (H2.out.put hown4 hgrow4)
          clear hown4 hgrow4
          go_wp2_with fail
          go_roundw
          case rel => exact ⟨i + 1, _, _, by omega, H4.out, HP.out⟩
          case measure =>
            have e1 : w4.iterPos (b + 2) = pos (lst k) (i + 1) := by simp [World.iterPos, H4.out.it]
            rw [HW.out, e1]
            exact HM.out
    · obtain rfl : i = 256 := by omega
      have hend := fun ty => Lib.run_next_end_at (P := Try.prog) wr (b + 2) (strOfNums (encs (lst k))) (pos (lst k) 256) ty T.it (by rw [strOfNums_size, ← HN.out, pos_end]; omega)
      have hend' : ∀ ty, (Instr.next (.pointer (some ⟨b + 1 + 1, 0, none⟩)) true ty).run Try.prog wr = .ok (.tuple #[.bool false]) wr := hend
      clear hend
      have HT := Lib.hid (And.intro T hE)
      clear T hE
      go_wp2_with fail
      go_ret2
      exact ⟨b + 1, rfl, HT.out.1.below, HT.out.1.made (by omega) HT.out.2⟩
end Go.Proofs.Ytageajpchmgehaa
