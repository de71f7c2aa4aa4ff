/- A list is recovered from its text: plain law. Nothing is claimed of a Go function here. -/
import Derived.Test.YtfacbdliegemgaaDoorReadL
namespace Go.Proofs.YtfacbdliegemgaaDoor

theorem itoa_not {c : UInt8} (hc : isDig c = false) (h45 : c ≠ 45) (n : Int) : ∀ x ∈ Lib.itoa n, x ≠ c := by
  have hd : ∀ u : Nat, ∀ x ∈ Lib.decDigits u, x ≠ c := by
    intro u x hx e
    have := List.all_eq_true.1 (dec_all u) x hx
    rw [e, hc] at this
    cases this
  by_cases h : n < 0
  · rw [itoa_neg h]
    intro x hx
    rcases List.mem_cons.1 hx with rfl | hx
    · exact fun e => h45 e.symm
    · exact hd _ x hx
  · rw [itoa_pos h]
    exact hd _
theorem cutS_jn {c : UInt8} {L : List ByteArray} (hn : L ≠ []) (h : ∀ x ∈ L, ∀ b ∈ x.data.toList, b ≠ c) : cutS c (jn c L) = L := by
  cases L with
  | nil => exact absurd rfl hn
  | cons x r =>
    unfold cutS jn bytesOf
    have e := cut_join c (r.map fun x : ByteArray => x.data.toList) x.data.toList (by
      intro y hy b hb
      rcases List.mem_cons.1 hy with rfl | hy
      · exact h x (by simp) b hb
      · obtain ⟨z, hz, rfl⟩ := List.mem_map.1 hy
        exact h z (by simp [hz]) b hb)
    rw [List.map_cons]
    show (cutAt c (Lib.join (x.data.toList :: r.map fun x : ByteArray => x.data.toList) [c])).map (fun l => (⟨l.toArray⟩ : ByteArray)) = x :: r
    rw [e, List.map_cons, List.map_map]
    congr 1
    conv => rhs; rw [← List.map_id r]
    exact List.map_congr_left fun y _ => rfl
def numS (n : Int) : Bool := decide (-10000000000000 < n ∧ n < 10000000000000)
theorem numT_ok {n : Int} (h : -10000000000000 < n) (h2 : n < 10000000000000) : sOkT (numT n) = true ∧ sNumT (numT n) = n := by
  unfold sOkT sNumT numT
  exact sOk_itoa h h2
theorem nums_ok {xs : List Int} (h : xs.all numS = true) : (xs.map numT).all sOkT = true ∧ numsOf (xs.map numT) = xs := by
  have h1 : (xs.map numT).all sOkT = true := by
    rw [List.all_eq_true]
    intro x hx
    obtain ⟨n, hn, rfl⟩ := List.mem_map.1 hx
    have := of_decide_eq_true (List.all_eq_true.1 h n hn)
    exact (numT_ok this.1 this.2).1
  refine ⟨h1, ?_⟩
  unfold numsOf
  rw [if_pos h1, List.map_map]
  conv => rhs; rw [← List.map_id xs]
  exact List.map_congr_left fun n hn => (numT_ok (of_decide_eq_true (List.all_eq_true.1 h n hn)).1 (of_decide_eq_true (List.all_eq_true.1 h n hn)).2).2
theorem val_numS {ns : List Int} (h : ns.all valB = true) : ns.all numS = true := by
  rw [List.all_eq_true] at h ⊢
  intro i hi
  have := h i hi
  unfold valB inB at this
  have := of_decide_eq_true this
  exact decide_eq_true (by omega)
theorem rl_back {xs : List Int} (h : xs.all valB = true) (h60 : xs.length ≤ 60) : rlVal (lstT xs) = some xs := by
  by_cases hn : xs = []
  · subst hn
    exact rl_dash
  · have hl : xs.map numT ≠ [] := fun e => hn (List.map_eq_nil_iff.1 e)
    have hc : cutS 44 (lstT xs) = xs.map numT := by
      unfold lstT
      rw [if_neg hn]
      refine cutS_jn hl fun x hx => ?_
      obtain ⟨n, _, rfl⟩ := List.mem_map.1 hx
      exact itoa_not (by rfl) (by decide) n
    obtain ⟨h1, h2⟩ := nums_ok (val_numS h)
    have hd : ¬ lstT xs = ⟨#[45]⟩ := by
      intro e
      rw [e] at hc
      rw [← hc] at h1
      revert h1
      decide
    rw [rl_of hd, hc, h1, h2, h, decide_eq_true h60]
    rfl
theorem lists_there {xs : List Int} (h : ltCode xs = 0) : rlCode (ltText xs) = 0 ∧ rlList (ltText xs) = xs := by
  rcases lt_cases xs rfl with ⟨_, HF⟩ | ⟨_, _, HF⟩ | ⟨ha, hl, HF⟩
  · have := HF.out.2; omega
  · have := HF.out.2; omega
  · have hb := rl_back ha (by omega)
    rw [HF.out.1]
    obtain ⟨h1, h2⟩ := (rdl_some hb).out
    exact ⟨h2, h1⟩
theorem lists_back {s : ByteArray} (h : rlCode s = 0) : ltCode (rlList s) = 0 ∧ ltText (rlList s) = s := by
  rcases hv : rlVal s with _ | x
  · have := (rdl_none hv).out.2; omega
  · obtain ⟨h1, h2, h3⟩ := rl_list hv
    rw [(rdl_some hv).out.1]
    rcases lt_cases x rfl with ⟨ha, _⟩ | ⟨_, hl, _⟩ | ⟨_, _, HF⟩
    · rw [h1] at ha; cases ha
    · omega
    · exact ⟨HF.out.2, HF.out.1.trans h3⟩
theorem rl_codes (s : ByteArray) : rlCode s = 0 ∨ rlCode s = 6 := by unfold rlCode; split <;> simp
theorem lt_codes (xs : List Int) : ltCode xs = 0 ∨ ltCode xs = 3 ∨ ltCode xs = 2 := by unfold ltCode; split <;> (try split) <;> simp
theorem lt_size (xs : List Int) : (ltText xs).size ≤ 2000 := by
  unfold ltText
  split
  · rename_i h
    unfold lstT
    split
    · decide
    · have h1 := jn_size 44 (xs.map numT)
      have h2 := nums_total (val_num h.1)
      rw [List.length_map] at h1
      omega
  · decide
end Go.Proofs.YtfacbdliegemgaaDoor
