/- A list read from its text: plain law, and what ReadList computes. -/
import Derived.Test.YtfacbdliegemgaaDoorReadLaw
import Derived.Test.YtfacbdliegemgaaDoorListT
namespace Go.Proofs.YtfacbdliegemgaaDoor
open Go.ChangeShapes Go.WideShapes Go.ChangeAt Go.RowKit

/-- the list that a text says -/
def rlVal (s : ByteArray) : Option (List Int) := if s = ⟨#[45]⟩ then some [] else if ((cutS 44 s).all sOkT && (decide ((numsOf (cutS 44 s)).length ≤ 60) && (numsOf (cutS 44 s)).all valB)) = true then some (numsOf (cutS 44 s)) else none
def rlList (s : ByteArray) : List Int := (rlVal s).getD []
def rlCode (s : ByteArray) : Int := if (rlVal s).isSome = true then 0 else 6
theorem rdl_none {s : ByteArray} (h : rlVal s = none) : Hid (rlList s = [] ∧ rlCode s = 6) := by
  unfold rlList rlCode
  rw [h]
  exact ⟨rfl, rfl⟩
theorem rdl_some {s : ByteArray} {x : List Int} (h : rlVal s = some x) : Hid (rlList s = x ∧ rlCode s = 0) := by
  unfold rlList rlCode
  rw [h]
  exact ⟨rfl, rfl⟩
theorem rl_dash : rlVal ⟨#[45]⟩ = some [] := by unfold rlVal; rw [if_pos rfl]
theorem rl_of {s : ByteArray} (h : ¬ s = ⟨#[45]⟩) : rlVal s = if ((cutS 44 s).all sOkT && (decide ((numsOf (cutS 44 s)).length ≤ 60) && (numsOf (cutS 44 s)).all valB)) = true then some (numsOf (cutS 44 s)) else none := by
  unfold rlVal
  rw [if_neg h]
theorem rl_read_no {s : ByteArray} (h : ¬ s = ⟨#[45]⟩) (h2 : (cutS 44 s).all rOkT = false ∨ 60 < (rNumsOf (cutS 44 s)).length ∨ (rNumsOf (cutS 44 s)).all valB = false) : rlVal s = none := by
  rw [rl_of h, if_neg]
  intro hq
  rw [Bool.and_eq_true, Bool.and_eq_true] at hq
  obtain ⟨h3, h4⟩ := nums_same hq.1
  rw [h3, h4, hq.2.2] at h2
  have := of_decide_eq_true hq.2.1
  rcases h2 with h2 | h2 | h2
  · cases h2
  · omega
  · cases h2
theorem rl_read_yes {s : ByteArray} (h : ¬ s = ⟨#[45]⟩) (h1 : (cutS 44 s).all rOkT = true) (h2 : (rNumsOf (cutS 44 s)).length ≤ 60) (h3 : (rNumsOf (cutS 44 s)).all valB = true) : rlVal s = some (rNumsOf (cutS 44 s)) := by
  obtain ⟨h4, h5⟩ := nums_back (lo := -1000000000000) (hi := 1000000000000) (by decide) (by decide) h1 h3
  rw [rl_of h, h4, h5, h3, decide_eq_true h2]
  rfl
theorem rl_text {s : ByteArray} (h : (cutS 44 s).all sOkT = true) : lstT (numsOf (cutS 44 s)) = s := by
  have h1 := nums_text h
  have hne : numsOf (cutS 44 s) ≠ [] := by
    intro e
    rw [e] at h1
    unfold cutS at h1
    have := cutAt_ne 44 s.data.toList
    simp only [List.map_nil] at h1
    exact this (List.map_eq_nil_iff.1 h1.symm)
  unfold lstT
  rw [if_neg hne, h1, jn_cut]
theorem rl_len (s : ByteArray) : (rlList s).length ≤ 60 := by
  unfold rlList
  by_cases h : s = ⟨#[45]⟩
  · subst h
    rw [rl_dash]
    simp
  · rw [rl_of h]
    split
    · rename_i hq
      rw [Bool.and_eq_true, Bool.and_eq_true] at hq
      exact of_decide_eq_true hq.2.1
    · simp
theorem rl_list {s : ByteArray} {x : List Int} (h : rlVal s = some x) : x.all valB = true ∧ x.length ≤ 60 ∧ lstT x = s := by
  by_cases hd : s = ⟨#[45]⟩
  · subst hd
    rw [rl_dash] at h
    injection h with h
    subst h
    exact ⟨rfl, Nat.zero_le _, by unfold lstT; rw [if_pos rfl]⟩
  · rw [rl_of hd] at h
    split at h
    · rename_i hq
      rw [Bool.and_eq_true, Bool.and_eq_true] at hq
      injection h with h
      subst h
      exact ⟨hq.2.2, of_decide_eq_true hq.2.1, rl_text hq.1⟩
    · cases h
set_option maxRecDepth 100000 in
set_option maxHeartbeats 2000000 in
theorem ReadList_spec (s : ByteArray) (w : World) (hs : s.size ≤ 1048576) :
    Calls Tryd.prog 13 #[.string s] w fun e w' => ∃ v, e = .returned (.tuple #[v, .int .i64 (rlCode s)]) ∧ w'.ownsRow w.heap.size 2 1 v (rlList s).length ((rlList s).map (Value.int .i64)) ∧ Below w.heap.size w w' := by
  by_cases hd : s = ⟨#[45]⟩
  · subst hd
    have HF := rdl_some rl_dash
    have cq : ((⟨#[45]⟩ : ByteArray).toList == (⟨#[45]⟩ : ByteArray).toList) = true := by simp
    go_enter Tryd.func13, Tryd.ntmps13
    go_wp2
    go_ret2
    refine ⟨_, by rw [HF.out.2]; rfl, ?_, (Below.refl _ _).alloc (Nat.le_refl _) _⟩
    rw [HF.out.1]
    exact World.ownsRow_lit w #[] 0 (Nat.le_refl _) (by unfold maxLen; omega) rfl
  · have hne : (s.toList == [45]) = false := by have h := text_ne hd; rw [ByteArray.toList_eq ⟨#[45]⟩] at h; exact h
    have hv := rl_of hd
    have hmx := cut_maxC (c := 44) hs
    have hln := cutS_size 44 s
    have hsp := Lib.hid (fun W => l01Split_any 44 s W hs)
    have htx := rl_text (s := s)
    obtain ⟨L, hL⟩ : ∃ L, cutS 44 s = L := ⟨_, rfl⟩
    rw [hL] at hsp hmx hv htx hln
    have hnum := Lib.hid (fun A c W h => l01Numbers_any A L.length c L W h (by omega))
    clear hL
    cases hok : L.all sOkT
    · have HF := rdl_none (s := s) (by rw [hv, hok]; rfl)
      rw [hok] at hnum
      clear hok hv htx
      go_enter Tryd.func13, Tryd.ntmps13
      go_wp2_with fail
      refine (hsp.out _).mono ?_
      rintro e_ w1 ⟨v, rfl, hown, hb1⟩
      obtain ⟨A, c, rfl, hx⟩ := own_strs hown hmx.2
      clear hown hsp
      go_wp2_with fail
      refine (hnum.out A c _ hx).mono ?_
      rintro e_ w2 ⟨v2, rfl, hown2, hb2⟩
      have B2 := next hb1 hb2
      obtain ⟨A2, c2, rfl, hx2⟩ := own_ints_ hown2
      go_wp2
      go_ret2
      exact ⟨_, by rw [HF.out.2]; rfl, by rw [HF.out.1]; exact World.ownsRow_nil _ _ _ _, B2⟩
    · have htx := htx hok
      have hnb := nums_numB hok
      rw [hok] at hnum
      rw [hok, Bool.true_and] at hv
      generalize numsOf L = ns at *
      obtain ⟨m, hm⟩ : ∃ m, ns.length = m := ⟨_, rfl⟩
      have HM := Lib.hid hm
      rw [hm] at hnum hv
      clear hm hok
      by_cases h60 : m ≤ 60
      · rw [decide_eq_true h60, Bool.true_and] at hv
        have cq : (s.toList == s.toList) = true := by simp
        have hli := fun A c W h => l01List_any A m c ns W h hnb (by omega)
        rw [htx] at hli
        clear htx hnb
        go_enter Tryd.func13, Tryd.ntmps13
        go_wp2_with fail
        refine (hsp.out _).mono ?_
        rintro e_ w1 ⟨v, rfl, hown, hb1⟩
        obtain ⟨A, c, rfl, hx⟩ := own_strs hown hmx.2
        clear hown hsp
        go_wp2_with fail
        refine (hnum.out A c _ hx).mono ?_
        rintro e_ w2 ⟨v2, rfl, hown2, hb2⟩
        have hz1 := hb1.size
        have B2 := next hb1 hb2
        clear hb1 hb2 hx hnum
        obtain ⟨A2, c2, rfl, hx2⟩ := own_ints_ hown2
        have hcm := hx2.2.cap
        have hnc := hx2.2.le
        unfold maxLen at hcm
        go_wp2_with fail
        refine (hli A2 c2 _ hx2).mono ?_
        rintro e_ w3 ⟨rfl, hb3⟩
        have B3 := Lib.hid (next B2 hb3)
        have O3 := Lib.hid (own_below hown2 hb3)
        have hx3 := hx2.below hb3
        clear hown2 B2 hb3 hx2 hli
        have hz3 := B3.out.size
        go_wp2
        go_loopw [6] (fun i wr => ∃ k : Nat, k ≤ m ∧ i = .int .i64 k ∧ Hid ((ns.take k).all valB = true) ∧ Below w3.heap.size w3 wr) (fun i _ => m - (intOf i).toNat)
        case atStart => exact ⟨0, Nat.zero_le _, rfl, by simp [Hid], Below.refl _ _⟩
        case round =>
          obtain ⟨k, hk, rfl, hup, hb⟩ := hrel
          by_cases hlt : k < m
          · obtain ⟨b, off, rfl, hbl⟩ := hx3.at_ k hlt
            obtain ⟨s1, hs1, c0⟩ := hx3.el hb hbl k hlt
            cases hw : valB s1
            · have HF := Lib.hid (rdl_none (s := s) (by rw [hv, all_not hs1 hw]; rfl))
              go_wp2_with fail
              refine (isb (l01Is_any s1 _) hw).mono ?_
              rintro e_ w4 ⟨rfl, h4⟩
              have hc_w4 := bcell h4; have hf_w4 := bfree h4
              go_wp2
              go_ret2
              exact ⟨_, by rw [HF.out.out.2]; rfl, by rw [HF.out.out.1]; exact World.ownsRow_nil _ _ _ _, next B3.out (next hb h4)⟩
            · have HU := Lib.hid (all_at hs1 hup.out hw)
              clear hup
              go_wp2_with fail
              refine (isb (l01Is_any s1 _) hw).mono ?_
              rintro e_ w4 ⟨rfl, h4⟩
              have hc_w4 := bcell h4; have hf_w4 := bfree h4
              go_wp2
              go_roundw
              case rel => exact ⟨k + 1, by omega, by go_num, HU, next hb h4⟩
              case measure => simp [intOf]; omega
          · have ha := all_done HM.out.symm (by omega) hup.out
            have HF := rdl_some (s := s) (x := ns) (by rw [hv, ha]; rfl)
            have HO := Lib.hid (own_below O3.out hb)
            clear hup ha
            go_wp2
            go_ret2
            exact ⟨_, by rw [HF.out.2]; rfl, by rw [HF.out.1, HM.out]; exact own_base HO.out hz1, next B3.out hb⟩
      · have HF := rdl_none (s := s) (by rw [hv, decide_eq_false h60]; rfl)
        clear htx hnb hv
        go_enter Tryd.func13, Tryd.ntmps13
        go_wp2_with fail
        refine (hsp.out _).mono ?_
        rintro e_ w1 ⟨v, rfl, hown, hb1⟩
        obtain ⟨A, c, rfl, hx⟩ := own_strs hown hmx.2
        clear hown hsp
        go_wp2_with fail
        refine (hnum.out A c _ hx).mono ?_
        rintro e_ w2 ⟨v2, rfl, hown2, hb2⟩
        have B2 := next hb1 hb2
        obtain ⟨A2, c2, rfl, hx2⟩ := own_ints_ hown2
        go_wp2
        go_ret2
        exact ⟨_, by rw [HF.out.2]; rfl, by rw [HF.out.1]; exact World.ownsRow_nil _ _ _ _, B2⟩
set_option maxRecDepth 100000 in
set_option maxHeartbeats 2000000 in
theorem ReadList_impl (s : ByteArray) (w : World) (hs : s.size ≤ 1048576) (hm : MaxCell w) (he : ErrCells w) (ht : PowTab w) :
    Calls Tryd.prog 14 #[.string s] w fun e w' => ∃ v, e = .returned (.tuple #[v, .int .i64 (rlCode s)]) ∧ w'.ownsRow w.heap.size 2 1 v (rlList s).length ((rlList s).map (Value.int .i64)) ∧ Below w.heap.size w w' := by
  by_cases hd : s = ⟨#[45]⟩
  · subst hd
    have HF := rdl_some rl_dash
    have cq : ((⟨#[45]⟩ : ByteArray).toList == (⟨#[45]⟩ : ByteArray).toList) = true := by simp
    go_enter Tryd.func14, Tryd.ntmps14
    go_wp2
    go_ret2
    exact ⟨_, by rw [HF.out.2]; rfl, by rw [HF.out.1]; exact World.ownsRow_nil _ _ _ _, Below.refl _ _⟩
  · have hne : (s.toList == [45]) = false := by have h := text_ne hd; rw [ByteArray.toList_eq ⟨#[45]⟩] at h; exact h
    have hrn := Lib.hid (readNumbers_any s ⟨#[44]⟩ 44 w rfl hs hm he ht)
    have hy := rl_read_yes hd
    have hn := rl_read_no hd
    have hcl : (rNumsOf (cutS 44 s)).length ≤ 1048577 := by
      have := cutS_size 44 s
      unfold rNumsOf
      split
      · simp; omega
      · simp
    clear hd
    generalize cutS 44 s = L at *
    cases hok : L.all rOkT
    · have HF := rdl_none (hn (.inl hok))
      rw [hok] at hrn
      clear hy hn hok
      go_enter Tryd.func14, Tryd.ntmps14
      go_wp2_with fail
      refine hrn.out.mono ?_
      rintro e_ w1 ⟨v, rfl, hown, hb⟩
      obtain ⟨A, c, rfl, hx⟩ := own_ints_ hown
      go_wp2
      go_ret2
      exact ⟨_, by rw [HF.out.2]; rfl, by rw [HF.out.1]; exact World.ownsRow_nil _ _ _ _, hb⟩
    · have hy := hy hok
      rw [hok] at hrn
      clear hok
      generalize rNumsOf L = ns at *
      obtain ⟨m, hm2⟩ : ∃ m, ns.length = m := ⟨_, rfl⟩
      rw [hm2] at hrn hy hn hcl
      have HM := Lib.hid hm2
      clear hm2
      by_cases h60 : 60 < m
      · have HF := rdl_none (hn (.inr (.inl h60)))
        clear hy hn
        go_enter Tryd.func14, Tryd.ntmps14
        go_wp2_with fail
        refine hrn.out.mono ?_
        rintro e_ w1 ⟨v, rfl, hown, hb⟩
        obtain ⟨A, c, rfl, hx⟩ := own_ints_ hown
        go_wp2
        go_ret2
        exact ⟨_, by rw [HF.out.2]; rfl, by rw [HF.out.1]; exact World.ownsRow_nil _ _ _ _, hb⟩
      · cases ha : ns.all valB
        · have HF := rdl_none (hn (.inr (.inr ha)))
          clear hy hn
          go_enter Tryd.func14, Tryd.ntmps14
          go_wp2_with fail
          refine hrn.out.mono ?_
          rintro e_ w1 ⟨v, rfl, hown, hb⟩
          obtain ⟨A, c, rfl, hx⟩ := own_ints_ hown
          go_wp2_with fail
          refine (isb (areWithin_any A m c ns (-1000000000000) 1000000000000 _ hx) ha).mono ?_
          rintro e_ w2 ⟨rfl, h2⟩
          go_wp2
          go_ret2
          exact ⟨_, by rw [HF.out.2]; rfl, by rw [HF.out.1]; exact World.ownsRow_nil _ _ _ _, next hb h2⟩
        · have HF := rdl_some (hy (by omega) ha)
          clear hy hn
          go_enter Tryd.func14, Tryd.ntmps14
          go_wp2_with fail
          refine hrn.out.mono ?_
          rintro e_ w1 ⟨v, rfl, hown, hb⟩
          obtain ⟨A, c, rfl, hx⟩ := own_ints_ hown
          go_wp2_with fail
          refine (isb (areWithin_any A m c ns (-1000000000000) 1000000000000 _ hx) ha).mono ?_
          rintro e_ w2 ⟨rfl, h2⟩
          have HO := Lib.hid (own_below hown h2)
          clear hown hx
          go_wp2
          go_ret2
          exact ⟨_, by rw [HF.out.2]; rfl, by rw [HF.out.1, HM.out]; exact HO.out, next hb h2⟩
end Go.Proofs.YtfacbdliegemgaaDoor
