/- Phrases are recovered from their words: plain law. Nothing is claimed of a Go function here. -/
import Derived.Test.YtbhibidgdlaeeaaDoorRepl
namespace Go.Proofs.YtbhibidgdlaeeaaDoor

theorem join_cutP (c : UInt8) : ∀ l : List UInt8, Lib.join (cutAt c l) [c] = l
  | [] => by simp [cutAt, Lib.join_one]
  | x :: l => by
    have ih := join_cutP c l
    unfold cutAt
    split
    · rename_i h
      rcases hq : cutAt c l with _ | ⟨p, r⟩
      · exact absurd hq (cutAt_ne c l)
      · rw [hq] at ih
        have e : Lib.join ([] :: p :: r) [c] = [] ++ c :: Lib.join (p :: r) [c] := by
          rw [Lib.join_cons, Lib.join_cons]
          simp [Lib.joinTail]
        rw [e, ih, h]
        rfl
    · split
      · rename_i hq
        exact absurd hq (cutAt_ne c l)
      · rename_i p r hq
        rw [hq] at ih
        have e : Lib.join ((x :: p) :: r) [c] = x :: Lib.join (p :: r) [c] := by
          rw [Lib.join_cons, Lib.join_cons]
          rfl
        rw [e, ih]
theorem joined_cut (s : ByteArray) : joined (cutS 32 s) = s := by
  apply ByteArray.ext
  apply Array.ext'
  unfold joined bytesOf cutS
  rw [List.map_map]
  have e : ((fun x : ByteArray => x.data.toList) ∘ fun l : List UInt8 => (⟨l.toArray⟩ : ByteArray)) = id := by
    funext l
    simp
  rw [e, List.map_id, join_cutP]
theorem ph_of {xs : List ByteArray} (h : xs.all isWord = true) (h1 : xs ≠ []) (h8 : xs.length ≤ 8) : phCode (joined xs) = 0 ∧ phWords (joined xs) = xs := by
  have hc := cutS_joined h h1
  have hp : isPhrase (joined xs) = true := by
    unfold isPhrase
    rw [hc, h, decide_eq_true h8]
    rfl
  unfold phCode phWords
  rw [if_pos hp, if_pos hp, hc]
  exact ⟨rfl, rfl⟩
theorem jp_there {xs : List ByteArray} (h : jpCode xs = 0) : phCode (jpText xs) = 0 ∧ phWords (jpText xs) = xs := by
  unfold jpCode at h
  split at h
  · rename_i hj
    unfold jpText
    rw [if_pos hj]
    unfold jpOk at hj
    rw [Bool.and_eq_true] at hj
    have hl := of_decide_eq_true hj.2
    exact ph_of hj.1 (fun e => by rw [e] at hl; simp at hl) hl.2
  · omega
theorem ph_there {s : ByteArray} (h : phCode s = 0) : jpCode (phWords s) = 0 ∧ jpText (phWords s) = s := by
  unfold phCode at h
  split at h
  · rename_i hp
    have hw : phWords s = cutS 32 s := by unfold phWords; rw [if_pos hp]
    have hj : jpOk (cutS 32 s) = true := by
      unfold isPhrase at hp
      rw [Bool.and_eq_true] at hp
      have hl := of_decide_eq_true hp.2
      have hn : 1 ≤ (cutS 32 s).length := by
        rcases hq : cutS 32 s with _ | ⟨x, r⟩
        · unfold cutS at hq
          exact absurd (List.map_eq_nil_iff.1 hq) (cutAt_ne 32 _)
        · simp
      unfold jpOk
      rw [hp.1, decide_eq_true ⟨hn, hl⟩]
      rfl
    rw [hw]
    unfold jpCode jpText
    rw [if_pos hj, if_pos hj]
    exact ⟨rfl, joined_cut s⟩
  · omega
theorem rw_there {s old word : ByteArray} (h : rwCode s old word = 0) : phCode (rwText s old word) = 0 ∧ hasW (phWords (rwText s old word)) word = true ∧ (¬ old = word → hasW (phWords (rwText s old word)) old = false) := by
  unfold rwCode at h
  split at h
  · rename_i ho
    split at h
    · rename_i hh
      have ht : rwText s old word = joined (repl (cutS 32 s) old word) := by unfold rwText; rw [if_pos ⟨ho, hh⟩]
      unfold rwOk at ho
      rw [Bool.and_eq_true, Bool.and_eq_true] at ho
      have hp := ho.1.1
      unfold isPhrase at hp
      rw [Bool.and_eq_true] at hp
      have hl := of_decide_eq_true hp.2
      have ha : (repl (cutS 32 s) old word).all isWord = true := by
        unfold repl
        rw [List.all_map, List.all_eq_true]
        intro x hx
        show isWord (if x = old then word else x) = true
        split
        · exact ho.2
        · exact List.all_eq_true.1 hp.1 x hx
      have hn : repl (cutS 32 s) old word ≠ [] := by
        intro e
        unfold repl at e
        have e2 := List.map_eq_nil_iff.1 e
        unfold cutS at e2
        exact absurd (List.map_eq_nil_iff.1 e2) (cutAt_ne 32 _)
      have h8 : (repl (cutS 32 s) old word).length ≤ 8 := by unfold repl; rw [List.length_map]; exact hl
      obtain ⟨r1, r2⟩ := ph_of ha hn h8
      rw [ht, r1, r2]
      refine ⟨rfl, ?_, fun hne => ?_⟩
      · unfold rwHas hasW at hh
        obtain ⟨x, hx, hxo⟩ := List.any_eq_true.1 hh
        have hxo := of_decide_eq_true hxo
        unfold hasW repl
        rw [List.any_map, List.any_eq_true]
        exact ⟨x, hx, by show decide ((if x = old then word else x) = word) = true; rw [if_pos hxo]; exact decide_eq_true rfl⟩
      · unfold hasW repl
        rw [List.any_map, List.any_eq_false]
        intro x _
        show ¬ decide ((if x = old then word else x) = old) = true
        intro hd
        have hd := of_decide_eq_true hd
        split at hd
        · exact hne hd.symm
        · rename_i hxo
          exact hxo hd
    · omega
  · omega
end Go.Proofs.YtbhibidgdlaeeaaDoor
