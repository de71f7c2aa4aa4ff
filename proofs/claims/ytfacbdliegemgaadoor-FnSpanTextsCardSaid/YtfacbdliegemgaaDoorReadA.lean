/- Numbers read from a text: what the reference's functions compute. -/
import Derived.Test.YtfacbdliegemgaaDoorNum
import Derived.Test.YtfacbdliegemgaaDoorWords
import Derived.Test.YtfacbdliegemgaaDoorMarks
namespace Go.Proofs.YtfacbdliegemgaaDoor
open Go.ChangeShapes Go.WideShapes Go.ChangeAt Go.RowKit

theorem text_dec (s t : ByteArray) : (s.toList == t.toList) = decide (s = t) := by
  by_cases h : s = t
  · subst h; simp
  · rw [text_ne h]; simp [h]
theorem dig_u8 (c : UInt8) : isDig c = decide (¬ ((c.toNat : Int) < 48) ∧ ¬ (57 < (c.toNat : Int))) := by
  unfold isDig
  apply decide_eq_decide.2
  omega
theorem val_step {s : ByteArray} {k q : Nat} (hk : k < s.size) (h13 : s.size ≤ 13) (h : (s.data.toList.take k).all isDig = true ∧ dval (s.data.toList.take k) = q) (hc : isDig s[k] = true) :
    ∃ q2 : Nat, (10 * (q : Int) + ((s[k].toNat : Int) - 48) = q2) ∧ q2 < 10000000000000 ∧ (s.data.toList.take (k + 1)).all isDig = true ∧ dval (s.data.toList.take (k + 1)) = q2 := by
  have ha := all_upto hk h.1 hc
  have hl := dval_lt _ ha
  have h10 : (10 : Nat) ^ (s.data.toList.take (k + 1)).length ≤ 10 ^ 13 := Nat.pow_le_pow_right (by omega) (by simp; omega)
  have e13 : (10 : Nat) ^ 13 = 10000000000000 := by decide
  have hd : dval (s.data.toList.take (k + 1)) = q * 10 + (s[k].toNat - 48) := by
    rw [List.take_succ_eq_append_getElem (by simpa using hk), dval_snoc, h.2]; rfl
  unfold isDig at hc
  have := of_decide_eq_true hc
  exact ⟨_, by rw [hd]; omega, by omega, ha, rfl⟩
set_option maxHeartbeats 800000 in
theorem l01Value_any (s : ByteArray) (w : World) (hs : s.size ≤ maxLen) :
    Calls Tryd.prog 66 #[.string s] w fun e w' => e = .returned (.tuple #[.int .i64 (vNum s.data.toList), .bool (vOk s.data.toList)]) ∧ Below w.heap.size w w' := by
  unfold maxLen at hs
  have hlen : s.data.toList.length = s.size := by simp
  by_cases h13 : 1 ≤ s.size ∧ s.size ≤ 13
  · obtain ⟨hA, hB⟩ := h13
    go_enter Tryd.func66, Tryd.ntmps66
    go_wp2
    go_loopw [4, 5] (fun n i wr => ∃ (k q : Nat), k ≤ s.size ∧ i = .int .i64 k ∧ n = .int .i64 q ∧ q < 10000000000000 ∧ Hid ((s.data.toList.take k).all isDig = true ∧ dval (s.data.toList.take k) = q) ∧ Below w.heap.size w wr) (fun _ i _ => s.size - (intOf i).toNat)
    case atStart => exact ⟨0, 0, Nat.zero_le _, rfl, rfl, by decide, by simp [Hid, dval], Below.refl _ _⟩
    case round =>
      obtain ⟨k, q, hk, rfl, rfl, hq, hup, hb⟩ := hrel
      by_cases hlt : k < s.size
      · by_cases hl : isDig s[k] = true
        · obtain ⟨q2, e2, hq2, hu2⟩ := val_step hlt hB hup.out hl
          have HU := Lib.hid hu2
          rw [dig_u8] at hl
          have hl2 := of_decide_eq_true hl
          have hc8 := s[k].toNat_lt
          obtain ⟨h1, h2⟩ := hl2
          have hw1 : IntKind.u8.wrap ((s[k].toNat : Int) - 48) = (s[k].toNat : Int) - 48 := IntWalk.u8_in _ (by omega)
          have hw2 : IntKind.i64.wrap (10 * (q : Int)) = 10 * (q : Int) := IntWalk.i64_in _ (by omega)
          have hw3 : IntKind.i64.wrap (10 * (q : Int) + ((s[k].toNat : Int) - 48)) = (q2 : Int) := by rw [IntWalk.i64_in _ (by omega)]; exact e2
          have hw4 : IntKind.i64.wrap ((s[k].toNat : Int) - 48) = (s[k].toNat : Int) - 48 := IntWalk.i64_in _ (by omega)
          clear hl hup hu2 e2
          go_wp2
          go_roundw
          case rel => exact ⟨k + 1, q2, by omega, by go_num, by first | rfl | simp only [hw1, hw2, hw3, hw4], hq2, HU, hb⟩
          case measure => simp [intOf]; omega
        · have hl' : isDig s[k] = false := by simpa using hl
          have HN := Lib.hid (show vNum s.data.toList = 0 ∧ vOk s.data.toList = false by unfold vNum vOk vLen; rw [all_no hlt hl', Bool.and_false]; exact ⟨rfl, rfl⟩)
          rw [dig_u8] at hl'
          have hl2 := of_decide_eq_false hl'
          clear hl hl' hup
          by_cases h1 : (s[k].toNat : Int) < 48
          · go_wp2
            go_ret2
            exact ⟨by rw [HN.out.1, HN.out.2]; rfl, hb⟩
          · have h2 : 57 < (s[k].toNat : Int) := by omega
            clear hl2
            go_wp2
            go_ret2
            exact ⟨by rw [HN.out.1, HN.out.2]; rfl, hb⟩
      · have hE := hup.out
        rw [List.take_of_length_le (by simp; omega)] at hE
        have HW := Lib.hid (show vNum s.data.toList = q ∧ vOk s.data.toList = decide ((⟨(Lib.decDigits q).toArray⟩ : ByteArray) = s) by
          have hv : vLen s.data.toList = true := by unfold vLen; rw [hE.1, Bool.and_true]; exact decide_eq_true (by omega)
          unfold vNum vOk
          rw [hv, hE.2, Bool.true_and]
          refine ⟨rfl, decide_eq_decide.2 ⟨fun h => by rw [h], fun h => by rw [← h]⟩⟩)
        have hd := l01Dec_any q wr (by omega)
        obtain ⟨t, ht⟩ : ∃ t : ByteArray, ⟨(Lib.decDigits q).toArray⟩ = t := ⟨_, rfl⟩
        rw [ht] at hd HW
        clear hup hE ht
        go_wp2_with fail
        refine hd.mono ?_
        rintro e_ w1 ⟨rfl, h1⟩
        go_wp2
        go_ret2
        exact ⟨by rw [HW.out.1, HW.out.2, ← text_dec]; rfl, next hb h1⟩
  · have HN := Lib.hid (show vNum s.data.toList = 0 ∧ vOk s.data.toList = false by
      have hv : vLen s.data.toList = false := by unfold vLen; rw [decide_eq_false (by omega), Bool.false_and]
      unfold vNum vOk; rw [hv]; exact ⟨rfl, rfl⟩)
    have hc : (s.size : Int) < 1 ∨ (¬ (s.size : Int) < 1 ∧ 13 < (s.size : Int)) := by omega
    rcases hc with hc | ⟨hc, hc2⟩
    all_goals
      go_enter Tryd.func66, Tryd.ntmps66
      go_wp2
      go_ret2
      exact ⟨by rw [HN.out.1, HN.out.2]; rfl, Below.refl _ _⟩
theorem vNum_bd (l : List UInt8) : 0 ≤ vNum l ∧ vNum l < 10000000000000 := by
  unfold vNum
  split
  · rename_i h
    unfold vLen at h
    rw [Bool.and_eq_true] at h
    have h2 := of_decide_eq_true h.1
    have h3 := dval_lt l h.2
    have h4 : (10 : Nat) ^ l.length ≤ 10 ^ 13 := Nat.pow_le_pow_right (by omega) h2.2
    have : (10 : Nat) ^ 13 = 10000000000000 := by decide
    omega
  · omega
theorem head_tail {s : ByteArray} (h : 0 < s.size) : s.data.toList = s[0] :: (s.extract 1 s.size).data.toList := by
  have hl : 0 < s.data.toList.length := by simpa using h
  rw [← ext_list, List.take_of_length_le (by simp)]
  have := List.drop_eq_getElem_cons hl
  rw [List.drop_zero] at this
  exact this
theorem sgn_minus {s : ByteArray} (h : 0 < s.size) (hc : s[0] = 45) : sNum s.data.toList = -vNum (s.extract 1 s.size).data.toList ∧ sOk s.data.toList = (vOk (s.extract 1 s.size).data.toList && decide (0 < vNum (s.extract 1 s.size).data.toList)) := by
  rw [head_tail h, hc]
  exact ⟨rfl, rfl⟩
theorem sgn_plain {s : ByteArray} (h : s.size = 0 ∨ ∃ h : 0 < s.size, s[0] ≠ 45) : sNum s.data.toList = vNum s.data.toList ∧ sOk s.data.toList = vOk s.data.toList := by
  rcases h with h | ⟨h, hc⟩
  · have : s.data.toList = [] := List.eq_nil_of_length_eq_zero (by simpa using h)
    rw [this]
    exact ⟨rfl, rfl⟩
  · have e := head_tail h
    generalize (s.extract 1 s.size).data.toList = r at e
    rw [e]
    unfold sNum sOk
    simp only [if_neg hc]
    exact ⟨trivial, trivial⟩
set_option maxHeartbeats 800000 in
theorem l01Signed_any (s : ByteArray) (w : World) (hs : s.size ≤ maxLen) :
    Calls Tryd.prog 42 #[.string s] w fun e w' => e = .returned (.tuple #[.int .i64 (sNum s.data.toList), .bool (sOk s.data.toList)]) ∧ Below w.heap.size w w' := by
  have hsm := hs
  unfold maxLen at hs
  by_cases h0 : 0 < s.size
  · have h0' : (0 : Int) < s.size := by omega
    by_cases hc : s[0] = 45
    · have HM := Lib.hid (sgn_minus h0 hc)
      have hc2 : (s[0].toNat : Int) = 45 := by rw [hc]; rfl
      have hv := l01Value_any (s.extract 1 s.size) w (by unfold maxLen; rw [ByteArray.size_extract]; omega)
      have hbd := vNum_bd (s.extract 1 s.size).data.toList
      obtain ⟨t, ht⟩ : ∃ t, s.extract 1 s.size = t := ⟨_, rfl⟩
      rw [ht] at HM hv hbd
      have HT := Lib.hid ht
      obtain ⟨v, hvv⟩ : ∃ v, vNum t.data.toList = v := ⟨_, rfl⟩
      rw [hvv] at HM hv hbd
      have hw : IntKind.i64.wrap (-v) = -v := IntWalk.i64_in _ (by omega)
      cases hb : vOk t.data.toList
      all_goals
        rw [hb] at HM hv
        clear hvv hb hc
        go_enter Tryd.func42, Tryd.ntmps42
        go_wp2_with fail
        refine hv.mono ?_
        rintro e_ w1 ⟨rfl, h1⟩
        go_wp2
        go_ret2
        exact ⟨by rw [HM.out.1, HM.out.2]; first | rfl | simp, h1⟩
    · have HM := Lib.hid (sgn_plain (.inr ⟨h0, hc⟩))
      have hc2 : ¬ (s[0].toNat : Int) = 45 := fun h => hc (UInt8.toNat_inj.1 (by have e : (45 : UInt8).toNat = 45 := rfl; omega))
      clear hc
      go_enter Tryd.func42, Tryd.ntmps42
      go_wp2_with fail
      refine (l01Value_any s w hsm).mono ?_
      rintro e_ w1 ⟨rfl, h1⟩
      go_wp2
      go_ret2
      exact ⟨by rw [HM.out.1, HM.out.2]; rfl, h1⟩
  · have HM := Lib.hid (sgn_plain (s := s) (.inl (by omega)))
    have h0' : ¬ (0 : Int) < s.size := by omega
    go_enter Tryd.func42, Tryd.ntmps42
    go_wp2_with fail
    refine (l01Value_any s w hsm).mono ?_
    rintro e_ w1 ⟨rfl, h1⟩
    go_wp2
    go_ret2
    exact ⟨by rw [HM.out.1, HM.out.2]; rfl, h1⟩
end Go.Proofs.YtfacbdliegemgaaDoor
