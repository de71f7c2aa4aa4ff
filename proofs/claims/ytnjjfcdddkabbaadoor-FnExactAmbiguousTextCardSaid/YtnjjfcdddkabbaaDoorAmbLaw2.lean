/- Texts with two parsings: why learning ends. Plain law; nothing is claimed of a Go function here. -/
import Derived.Test.YtnjjfcdddkabbaaDoorAmbLaw
namespace Go.Proofs.YtnjjfcdddkabbaaDoor
open Go.RowKit

theorem cut_size (s : ByteArray) (n : Nat) : (cutT s n).size = s.size - n := by unfold cutT; simp
theorem cut_list (s : ByteArray) (n : Nat) : (cutT s n).data.toList = s.data.toList.drop n := by
  unfold cutT
  rw [ByteArray.data_extract, Array.toList_extract]
  simp [List.take_of_length_le]
theorem cut_cut (s : ByteArray) (m n : Nat) : cutT (cutT s m) n = cutT s (m + n) := by
  apply ByteArray.ext
  apply Array.ext'
  rw [cut_list, cut_list, cut_list, List.drop_drop]
def sufs (s : ByteArray) : List ByteArray := (List.range (s.size + 1)).map (cutT s)
/-- all rests that there can be -/
def univ (R : List ByteArray) : List ByteArray := R.flatMap sufs
theorem univ_at {R : List ByteArray} {r : ByteArray} {n : Nat} (h : r ∈ R) (hn : n ≤ r.size) : cutT r n ∈ univ R := by
  unfold univ sufs
  rw [List.mem_flatMap]
  exact ⟨r, h, List.mem_map.2 ⟨n, List.mem_range.2 (by omega), rfl⟩⟩
theorem univ_cut {R : List ByteArray} {x : ByteArray} {n : Nat} (h : x ∈ univ R) (hn : n ≤ x.size) : cutT x n ∈ univ R := by
  unfold univ sufs at h
  rw [List.mem_flatMap] at h
  obtain ⟨r, hr, hx⟩ := h
  obtain ⟨m, hm, rfl⟩ := List.mem_map.1 hx
  rw [List.mem_range] at hm
  rw [cut_size] at hn
  rw [cut_cut]
  exact univ_at hr (by omega)
theorem univ_size {R : List ByteArray} (hR : ∀ r ∈ R, r.size ≤ 4) {x : ByteArray} (h : x ∈ univ R) : x.size ≤ 4 := by
  unfold univ sufs at h
  rw [List.mem_flatMap] at h
  obtain ⟨r, hr, hx⟩ := h
  obtain ⟨m, _, rfl⟩ := List.mem_map.1 hx
  have := hR r hr
  rw [cut_size]
  omega
theorem pre_le {x s : ByteArray} (h : pre x s = true) : x.size ≤ s.size := by
  unfold pre at h
  rw [Bool.and_eq_true] at h
  exact of_decide_eq_true h.1
/-- how many rests are known -/
def cntB (U : List ByteArray) (f : Best) : Nat := U.countP fun x => (f x).isSome
theorem cntB_le (U : List ByteArray) (f : Best) : cntB U f ≤ U.length := List.countP_le_length
structure FitB (R : List ByteArray) (f : Best) : Prop where
  dom : ∀ x t, f x = some t → x ∈ univ R
  size : ∀ x t, f x = some t → t.size ≤ 4 * (1 + cntB (univ R) f)
def bigB (R : List ByteArray) : Nat := 257 ^ (4 * (1 + (univ R).length))
def valB (R : List ByteArray) (f : Best) (x : ByteArray) : Nat := match f x with
  | some t => rankT t
  | none => bigB R
/-- what falls with each new text -/
def phiB (R : List ByteArray) (f : Best) : Nat := ((univ R).map (valB R f)).sum
theorem countP_lt {α : Type} {p q : α → Bool} : ∀ {U : List α} {x : α}, (∀ y, p y = true → q y = true) → x ∈ U → p x = false → q x = true → U.countP p + 1 ≤ U.countP q
  | [], _, _, h, _, _ => by cases h
  | y :: U, x, hm, hx, hp, hq => by
    rw [List.countP_cons, List.countP_cons]
    have hle : U.countP p ≤ U.countP q := List.countP_mono_left (fun z _ h => hm z h)
    rcases List.mem_cons.1 hx with e | e
    · subst e
      rw [hp, hq]
      simp
      omega
    · have ih := countP_lt hm e hp hq
      cases h1 : p y
      · cases q y <;> simp <;> omega
      · rw [hm y h1]; simp; omega
theorem sum_le_ {α : Type} {F G : α → Nat} : ∀ {U : List α}, (∀ y ∈ U, G y ≤ F y) → (U.map G).sum ≤ (U.map F).sum
  | [], _ => Nat.le_refl _
  | y :: U, h => by
    rw [List.map_cons, List.map_cons, List.sum_cons, List.sum_cons]
    have := h y (by simp)
    have := sum_le_ (U := U) (fun z hz => h z (by simp [hz]))
    omega
theorem sum_lt_ {α : Type} {F G : α → Nat} : ∀ {U : List α} {x : α}, (∀ y ∈ U, G y ≤ F y) → x ∈ U → G x < F x → (U.map G).sum < (U.map F).sum
  | [], _, _, h, _ => by cases h
  | y :: U, x, h, hx, hlt => by
    rw [List.map_cons, List.map_cons, List.sum_cons, List.sum_cons]
    have hy := h y (by simp)
    have hU := sum_le_ (U := U) (F := F) (G := G) (fun z hz => h z (by simp [hz]))
    rcases List.mem_cons.1 hx with e | e
    · subst e; omega
    · have := sum_lt_ (U := U) (fun z hz => h z (by simp [hz])) e hlt
      omega
theorem fit_start (R : List ByteArray) : FitB R (fun _ => none) := ⟨fun x t h => (by cases h), fun x t h => (by cases h)⟩
theorem learn_fit {R : List ByteArray} {f : Best} (h : FitB R f) {x t : ByteArray} (hx : x ∈ univ R) (ht : t.size ≤ 4 * (1 + cntB (univ R) f) + 4) : FitB R (learnB f x t) := by
  by_cases hn : isNewB f x t = true
  · have e : learnB f x t = setB f x t := by unfold learnB; rw [if_pos hn]
    rw [e]
    have hm : ∀ y, (f y).isSome = true → (setB f x t y).isSome = true := fun y hy => by
      by_cases ey : y = x
      · rw [ey, setB_at]; rfl
      · rw [setB_ne ey]; exact hy
    have hc : cntB (univ R) f ≤ cntB (univ R) (setB f x t) := List.countP_mono_left (fun y _ hy => hm y hy)
    refine ⟨fun y u hy => ?_, fun y u hy => ?_⟩
    · by_cases ey : y = x
      · rw [ey]; exact hx
      · rw [setB_ne ey] at hy; exact h.dom y u hy
    · by_cases ey : y = x
      · subst ey
        rw [setB_at] at hy
        injection hy with hy
        subst hy
        unfold isNewB at hn
        rcases ef : f y with _ | u
        · have := countP_lt (p := fun z => (f z).isSome) (q := fun z => (setB f y t z).isSome) hm hx (by rw [ef]; rfl) (by rw [setB_at]; rfl)
          unfold cntB at *
          omega
        · rw [ef] at hn
          have h1 := h.size y u ef
          have h2 : t.size ≤ u.size := by
            unfold betB at hn
            rw [Bool.or_eq_true, Bool.and_eq_true, decide_eq_true_iff, decide_eq_true_iff] at hn
            rcases hn with h | h <;> omega
          omega
      · rw [setB_ne ey] at hy
        have := h.size y u hy
        omega
  · unfold learnB
    rw [if_neg hn]
    exact h
theorem learn_phi {R : List ByteArray} {f : Best} (h : FitB R f) {x t : ByteArray} (hx : x ∈ univ R) (ht : t.size ≤ 4 * (1 + cntB (univ R) f) + 4) (hn : isNewB f x t = true) : phiB R (learnB f x t) < phiB R f := by
  have hfit := learn_fit h hx ht
  have e : learnB f x t = setB f x t := by unfold learnB; rw [if_pos hn]
  rw [e] at hfit ⊢
  have htz : rankT t < bigB R := by
    have h1 := hfit.size x t (setB_at _ _ _)
    have h2 := cntB_le (univ R) (setB f x t)
    exact rank_bound (by omega)
  have hlt : valB R (setB f x t) x < valB R f x := by
    unfold valB
    rw [setB_at]
    unfold isNewB at hn
    rcases ef : f x with _ | u
    · exact htz
    · rw [ef] at hn
      exact (bet_rank t u).1 hn
  unfold phiB
  refine sum_lt_ (fun y _ => ?_) hx hlt
  by_cases ey : y = x
  · rw [ey]; exact Nat.le_of_lt hlt
  · unfold valB
    rw [setB_ne ey]
    exact Nat.le_refl _
theorem learn_phi_le {R : List ByteArray} {f : Best} (h : FitB R f) {x t : ByteArray} (hx : x ∈ univ R) (ht : t.size ≤ 4 * (1 + cntB (univ R) f) + 4) : phiB R (learnB f x t) ≤ phiB R f := by
  by_cases hn : isNewB f x t = true
  · exact Nat.le_of_lt (learn_phi h hx ht hn)
  · unfold learnB; rw [if_neg hn]; exact Nat.le_refl _
/-! ## a measure out of what only the proof knows -/
theorem min_ex {p : Nat → Prop} (h : ∃ m, p m) : ∃ m, p m ∧ ∀ k, p k → m ≤ k := by
  obtain ⟨m, hm⟩ := h
  induction m using Nat.strongRecOn with
  | _ m ih =>
    by_cases hk : ∃ k, k < m ∧ p k
    · obtain ⟨k, h1, h2⟩ := hk
      exact ih k h1 h2
    · exact ⟨m, hm, fun k hp => Nat.le_of_not_lt fun hlt => hk ⟨k, hlt, hp⟩⟩
noncomputable def minP (p : Nat → Prop) : Nat := by
  classical
  exact if h : ∃ m, p m then Classical.choose (min_ex h) else 0
theorem minP_is {p : Nat → Prop} (h : ∃ m, p m) : p (minP p) ∧ ∀ k, p k → minP p ≤ k := by
  unfold minP
  rw [dif_pos h]
  exact Classical.choose_spec (min_ex h)
theorem minP_lt {q : Nat → Prop} {k n : Nat} (hq : q k) (hlt : k < n) : minP q < n := by
  have h1 := (minP_is (p := q) ⟨k, hq⟩).2 k hq
  omega
end Go.Proofs.YtnjjfcdddkabbaaDoor
