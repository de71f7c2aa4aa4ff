/- A rule is recovered from its text: plain law. Nothing is claimed of a Go function here. -/
import Derived.Test.YtfacbdliegemgaaGreatDoorReadRl
namespace Go.Proofs.YtfacbdliegemgaaGreatDoor

theorem itoa_notR {c : UInt8} (hc : isDig c = false) (h45 : c ≠ 45) (n : Int) : ∀ x ∈ Lib.itoa n, x ≠ c := by
  have hd : ∀ u : Nat, ∀ x ∈ Lib.decDigits u, x ≠ c := by
    intro u x hx e
    have := List.all_eq_true.1 (dec_all u) x hx
    rw [e, hc] at this
    cases this
  by_cases h : n < 0
  · rw [itoa_neg h]
    intro x hx
    rcases List.mem_cons.1 hx with rfl | hx
    · exact fun e => h45 e.symm
    · exact hd _ x hx
  · rw [itoa_pos h]
    exact hd _
theorem cutS_jnR {c : UInt8} {L : List ByteArray} (hn : L ≠ []) (h : ∀ x ∈ L, ∀ b ∈ x.data.toList, b ≠ c) : cutS c (jn c L) = L := by
  cases L with
  | nil => exact absurd rfl hn
  | cons x r =>
    unfold cutS jn bytesOf
    have e := cut_join c (r.map fun x : ByteArray => x.data.toList) x.data.toList (by
      intro y hy b hb
      rcases List.mem_cons.1 hy with rfl | hy
      · exact h x (by simp) b hb
      · obtain ⟨z, hz, rfl⟩ := List.mem_map.1 hy
        exact h z (by simp [hz]) b hb)
    rw [List.map_cons]
    show (cutAt c (Lib.join (x.data.toList :: r.map fun x : ByteArray => x.data.toList) [c])).map (fun l => (⟨l.toArray⟩ : ByteArray)) = x :: r
    rw [e, List.map_cons, List.map_map]
    congr 1
    conv => rhs; rw [← List.map_id r]
    exact List.map_congr_left fun y _ => rfl
theorem numT_okR {n : Int} (h : -10000000000000 < n) (h2 : n < 10000000000000) : sOkT (numT n) = true ∧ sNumT (numT n) = n := by
  unfold sOkT sNumT numT
  exact sOk_itoa h h2
theorem nums_okR {xs : List Int} (h : xs.all (inB 0 19) = true) : (xs.map numT).all sOkT = true ∧ numsOf (xs.map numT) = xs := by
  have hb : ∀ n ∈ xs, 0 ≤ n ∧ n ≤ 19 := fun n hn => of_decide_eq_true (List.all_eq_true.1 h n hn)
  have h1 : (xs.map numT).all sOkT = true := by
    rw [List.all_eq_true]
    intro x hx
    obtain ⟨n, hn, rfl⟩ := List.mem_map.1 hx
    have := hb n hn
    exact (numT_okR (by omega) (by omega)).1
  refine ⟨h1, ?_⟩
  unfold numsOf
  rw [if_pos h1, List.map_map]
  conv => rhs; rw [← List.map_id xs]
  exact List.map_congr_left fun n hn => by
    have := hb n hn
    exact (numT_okR (by omega) (by omega)).2
theorem join_not {c d : UInt8} (hcd : d ≠ c) : ∀ L : List (List UInt8), (∀ l ∈ L, ∀ b ∈ l, b ≠ c) → ∀ b ∈ Lib.join L [d], b ≠ c
  | [], _ => by simp [Lib.join]
  | x :: r, h => by
    rw [Lib.join_cons]
    have ht : ∀ r : List (List UInt8), (∀ l ∈ r, ∀ b ∈ l, b ≠ c) → ∀ b ∈ Lib.joinTail [d] r, b ≠ c := by
      intro r
      induction r with
      | nil => intro _; simp [Lib.joinTail]
      | cons y r ih =>
        intro h b hb
        have e : Lib.joinTail [d] (y :: r) = d :: (y ++ Lib.joinTail [d] r) := by simp [Lib.joinTail]
        rw [e] at hb
        rcases List.mem_cons.1 hb with hb | hb
        · rw [hb]; exact hcd
        · rcases List.mem_append.1 hb with hb | hb
          · exact h y (by simp) b hb
          · exact ih (fun l hl => h l (by simp [hl])) b hb
    intro b hb
    rcases List.mem_append.1 hb with hb | hb
    · exact h x (by simp) b hb
    · exact ht r (fun l hl => h l (by simp [hl])) b hb
theorem rr_back {xs : List Int} {r : ByteArray} (h : isRl (xs, r) = true) : rrVal (rtext (xs, r)) = some (xs, r) := by
  obtain ⟨h1, h2⟩ := rl_parts h
  have hn : xs ≠ [] := by
    intro e
    subst e
    unfold isRl sgB at h
    simp at h
  obtain ⟨n1, n2⟩ := nums_okR h1
  have hl : xs.map numT ≠ [] := fun e => hn (List.map_eq_nil_iff.1 e)
  have hc : cutS 43 (jn 43 (xs.map numT)) = xs.map numT := cutS_jnR hl fun x hx => by
    obtain ⟨n, _, rfl⟩ := List.mem_map.1 hx
    exact itoa_notR (by rfl) (by decide) n
  have hr : cutAt 61 r.data.toList = [r.data.toList] := by
    unfold small at h2
    rw [Bool.and_eq_true] at h2
    refine cutAt_none fun x hx e => ?_
    have := List.all_eq_true.1 h2.1 x hx
    rw [e] at this
    revert this
    decide
  have hj : ∀ b ∈ (jn 43 (xs.map numT)).data.toList, b ≠ 61 := by
    unfold jn
    refine join_not (by decide) _ fun l hl' => ?_
    unfold bytesOf at hl'
    rw [List.map_map] at hl'
    obtain ⟨n, _, rfl⟩ := List.mem_map.1 hl'
    exact itoa_notR (by rfl) (by decide) n
  have hp : cutS 61 (rtext (xs, r)) = [jn 43 (xs.map numT), r] := by
    have hd : (rtext (xs, r)).data.toList = (jn 43 (xs.map numT)).data.toList ++ 61 :: r.data.toList := by
      unfold rtext
      simp
    unfold cutS
    rw [hd, cutAt_app _ hj, hr]
    rfl
  unfold rrVal rrPair
  rw [hp]
  simp only [Option.bind_some]
  rw [hc, n1, n2, h]
  rfl
theorem rx_there {xs : List Int} {r : ByteArray} (h : rxCode (xs, r) = 0) : rrCode (rxText (xs, r)) = 0 ∧ rrRule (rxText (xs, r)) = (xs, r) := by
  unfold rxCode at h
  split at h
  · rename_i hs
    have hb := rr_back hs
    unfold rxText
    rw [if_pos hs]
    unfold rrCode rrRule
    rw [hb]
    exact ⟨rfl, rfl⟩
  · omega
theorem rx_back {s : ByteArray} (h : rrCode s = 0) : rxCode (rrRule s) = 0 ∧ rxText (rrRule s) = s := by
  unfold rrCode at h
  split at h
  · rename_i hv
    obtain ⟨x, hx⟩ := Option.isSome_iff_exists.1 hv
    obtain ⟨h1, h2⟩ := rr_rule hx
    have e : rrRule s = x := by unfold rrRule; rw [hx]; rfl
    rw [e]
    unfold rxCode rxText
    rw [if_pos h1, if_pos h1]
    exact ⟨rfl, h2⟩
  · omega
theorem rx_code (x : Rl) : (rxCode x = 0 ∧ isRl x = true) ∨ (rxCode x = 1 ∧ isRl x = false) := by
  unfold rxCode
  cases isRl x <;> simp
theorem rr_codes (s : ByteArray) : rrCode s = 0 ∨ rrCode s = 6 := by unfold rrCode; split <;> simp
theorem rx_size (x : Rl) : (rxText x).size ≤ 200 := by
  unfold rxText
  split
  · rename_i h
    obtain ⟨xs, r⟩ := x
    obtain ⟨h1, h2⟩ := rl_parts h
    have hlen := (isRl_len h).2.1
    have hnb : xs.all numB = true := by
      rw [List.all_eq_true] at h1 ⊢
      intro n hn
      have := of_decide_eq_true (h1 n hn)
      exact decide_eq_true (by omega)
    have t1 := jn_size 43 (xs.map numT)
    have t2 := nums_total hnb
    rw [List.length_map] at t1
    have hs : (r.size : Int) ≤ 4 := by
      unfold small at h2
      rw [Bool.and_eq_true] at h2
      exact (of_decide_eq_true h2.2).2
    show (jn 43 (xs.map numT) ++ ⟨#[61]⟩ ++ r).size ≤ 200
    rw [ByteArray.size_append, ByteArray.size_append]
    have : (⟨#[61]⟩ : ByteArray).size = 1 := rfl
    have hl3 : xs.length ≤ 3 := hlen
    omega
  · decide
theorem rr_size (s : ByteArray) : (rrRule s).2.size ≤ 4 ∧ (rrRule s).1.length ≤ 3 := by
  unfold rrRule
  rcases h : rrVal s with _ | x
  · exact ⟨Nat.zero_le _, Nat.zero_le _⟩
  · obtain ⟨h1, _⟩ := rr_rule h
    obtain ⟨xs, r⟩ := x
    obtain ⟨_, h2⟩ := rl_parts h1
    have hlen := (isRl_len h1).2.1
    unfold small at h2
    rw [Bool.and_eq_true] at h2
    have := (of_decide_eq_true h2.2).2
    exact ⟨by show r.size ≤ 4; omega, hlen⟩
end Go.Proofs.YtfacbdliegemgaaGreatDoor
