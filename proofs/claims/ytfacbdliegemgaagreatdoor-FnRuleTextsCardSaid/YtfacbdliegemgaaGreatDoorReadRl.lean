/- A rule read from its text: plain law. Nothing is claimed of a Go function here. -/
import Derived.Test.YtfacbdliegemgaaGreatDoorReadLaw
import Derived.Test.YtfacbdliegemgaaGreatDoorRuleT
namespace Go.Proofs.YtfacbdliegemgaaGreatDoor

/-- the rule that a text says -/
def rrPair (s : ByteArray) : Option (ByteArray × ByteArray) := match cutS 61 s with | [a, b] => some (a, b) | _ => none
def rrVal (s : ByteArray) : Option Rl := (rrPair s).bind fun ab => if ((cutS 43 ab.1).all sOkT && isRl (numsOf (cutS 43 ab.1), ab.2)) = true then some (numsOf (cutS 43 ab.1), ab.2) else none
def rrRule (s : ByteArray) : Rl := (rrVal s).getD ([], ⟨#[]⟩)
def rrCode (s : ByteArray) : Int := if (rrVal s).isSome = true then 0 else 6
/-- what impl asks -/
def rdBefore (s : ByteArray) : ByteArray := ⟨(Lib.cut s.data.toList [61]).1.toArray⟩
def rdAfter (s : ByteArray) : ByteArray := ⟨(Lib.cut s.data.toList [61]).2.1.toArray⟩
def rdFound (s : ByteArray) : Bool := (Lib.cut s.data.toList [61]).2.2
def rdList (s : ByteArray) : List ByteArray := cutS 43 (rdBefore s)
theorem rd_cases (s : ByteArray) : (rdFound s = false ∧ rdBefore s = s ∧ cutS 61 s = [s]) ∨ (rdFound s = true ∧ cutS 61 s = rdBefore s :: cutS 61 (rdAfter s)) := by
  unfold rdFound rdBefore rdAfter cutS
  rcases cut_one 61 s.data.toList with ⟨h1, h2⟩ | ⟨p, r, h1, h2⟩
  · refine .inl ?_
    rw [h1, h2]
    exact ⟨rfl, bytes_eq (by simp), by simp⟩
  · refine .inr ?_
    rw [h1, h2]
    simp
theorem lower_cut {r : ByteArray} {lo hi : Int} (h : small lo hi r = true) : cutS 61 r = [r] := by
  unfold small at h
  rw [Bool.and_eq_true] at h
  unfold cutS
  rw [cutAt_none]
  · simp only [List.map_cons, List.map_nil]
  · intro x hx e
    have := List.all_eq_true.1 h.1 x hx
    rw [e] at this
    revert this
    decide
theorem rl_parts {xs : List Int} {r : ByteArray} (h : isRl (xs, r) = true) : xs.all (inB 0 19) = true ∧ small 0 4 r = true := by
  unfold isRl sgB at h
  rw [Bool.and_eq_true, Bool.and_eq_true] at h
  exact ⟨h.1.1, h.2⟩
theorem rd_yes {s : ByteArray} (h1 : rdFound s = true) (h2 : (rdList s).all rOkT = true) (h3 : isRl (rNumsOf (rdList s), rdAfter s) = true) : rrVal s = some (rNumsOf (rdList s), rdAfter s) := by
  rcases rd_cases s with ⟨h, _⟩ | ⟨_, hc⟩
  · rw [h] at h1; cases h1
  · obtain ⟨h4, h5⟩ := rl_parts h3
    obtain ⟨h6, h7⟩ := nums_back (by decide) (by decide) h2 h4
    rw [lower_cut h5] at hc
    unfold rdList at h3 h6 h7 ⊢
    unfold rrVal rrPair
    rw [hc]
    simp only [Option.bind_some]
    rw [h7, h6, h3]
    rfl
theorem rd_no {s : ByteArray} (h : rdFound s = false ∨ (rdList s).all rOkT = false ∨ isRl (rNumsOf (rdList s), rdAfter s) = false) : rrVal s = none := by
  unfold rrVal rrPair
  rcases hc : cutS 61 s with _ | ⟨a, _ | ⟨b, _ | ⟨_, _⟩⟩⟩
  · rfl
  · rfl
  · simp only [Option.bind_some]
    rw [if_neg]
    intro hq
    rw [Bool.and_eq_true] at hq
    rcases rd_cases s with ⟨_, _, h1⟩ | ⟨h1, h2⟩
    · rw [hc] at h1; simp at h1
    · rw [hc] at h2
      injection h2 with h2 h3
      have hb : cutS 61 (rdAfter s) = [rdAfter s] := by
        have hj := jn_cut 61 (rdAfter s)
        rw [← h3, jn_one] at hj
        rw [← h3, hj]
      rw [hb] at h3
      injection h3 with h3
      subst h2; subst h3
      obtain ⟨h4, h5⟩ := nums_same hq.1
      unfold rdList at h
      rw [h1, h4, h5, hq.2] at h
      simp at h
  · rfl
theorem rr_text {s a b : ByteArray} (hp : cutS 61 s = [a, b]) (h : (cutS 43 a).all sOkT = true) : rtext (numsOf (cutS 43 a), b) = s := by
  unfold rtext
  rw [nums_text h, jn_cut]
  have := jn_cut 61 s
  rw [hp] at this
  rw [← jn_one 61 a, ← jn_snoc 61 [a] b (by simp)]
  exact this
theorem rr_rule {s : ByteArray} {x : Rl} (h : rrVal s = some x) : isRl x = true ∧ rtext x = s := by
  unfold rrVal rrPair at h
  rcases hc : cutS 61 s with _ | ⟨a, _ | ⟨b, _ | ⟨_, _⟩⟩⟩
  · rw [hc] at h; cases h
  · rw [hc] at h; cases h
  · rw [hc] at h
    simp only [Option.bind_some] at h
    split at h
    · rename_i hq
      rw [Bool.and_eq_true] at hq
      injection h with h
      subst h
      exact ⟨hq.2, rr_text hc hq.1⟩
    · cases h
  · rw [hc] at h; cases h
end Go.Proofs.YtfacbdliegemgaaGreatDoor
