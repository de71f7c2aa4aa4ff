/- IsSpelling. -/
import Derived.Test.YtnjeloggpbgloaaDoorSpellE
import Derived.Test.YtnjeloggpbgloaaDoorSame
namespace Go.Proofs.YtnjeloggpbgloaaDoor
open Go.ChangeShapes Go.WideShapes Go.ChangeAt Go.RowKit

theorem cat_size {xs : List ByteArray} (h : isAlpha xs = true) (sp : List Int) : (cat xs sp).size ≤ 3 * sp.length := by
  have H : ∀ (sp : List Int) (t : ByteArray), (sp.foldl (fun t i => t ++ xs.getD i.toNat ⟨#[]⟩) t).size ≤ t.size + 3 * sp.length := by
    intro sp
    induction sp with
    | nil => intro t; simp
    | cons i r ih =>
      intro t
      rw [List.foldl_cons]
      have h1 := ih (t ++ xs.getD i.toNat ⟨#[]⟩)
      rw [ByteArray.size_append] at h1
      have h2 : (xs.getD i.toNat ⟨#[]⟩).size ≤ 3 := by
        rw [List.getD_eq_getElem?_getD]
        cases hx : xs[i.toNat]? with
        | none => exact (by decide : (⟨#[]⟩ : ByteArray).size ≤ 3)
        | some x => exact (alpha_size h hx).2
      rw [List.length_cons]
      omega
  have := H sp ⟨#[]⟩
  have e : (⟨#[]⟩ : ByteArray).size = 0 := rfl
  unfold cat
  omega
def isSp (xs : List ByteArray) (sp : List Int) : Bool := decide (jlCode xs sp = 0) && isWord (jlText xs sp) && spellOk xs (jlText xs sp) && decide (spellList xs (jlText xs sp) = sp)
theorem jl_three (xs : List ByteArray) (sp : List Int) : ((jlCode xs sp = 1 ∨ jlCode xs sp = 2) ∧ isSp xs sp = false) ∨ (jlCode xs sp = 0 ∧ isAlpha xs = true ∧ (jlText xs sp).size ≤ 48) := by
  unfold isSp
  cases ha : isAlpha xs
  · have := (jl_no sp ha).out
    left
    rw [this.2]
    simp
  · cases hb : jlBad xs sp
    · have := (jl_ok ha hb).out
      right
      refine ⟨this.2, rfl, ?_⟩
      rw [this.1]
      have h1 := cat_size ha sp
      unfold jlBad at hb
      simp at hb
      omega
    · have := (jl_bad ha hb).out
      left
      rw [this.2]
      simp
theorem isSp_of {xs : List ByteArray} {sp : List Int} {t : ByteArray} (hc : jlCode xs sp = 0) (ht : jlText xs sp = t) : isSp xs sp = (isWord t && spellOk xs t && decide (spellList xs t = sp)) := by
  unfold isSp
  rw [hc, ht]
  simp
end Go.Proofs.YtnjeloggpbgloaaDoor
