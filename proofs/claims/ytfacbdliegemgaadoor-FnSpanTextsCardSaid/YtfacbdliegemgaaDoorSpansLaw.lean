/- A span is recovered from its text: plain law. Nothing is claimed of a Go function here. -/
import Derived.Test.YtfacbdliegemgaaDoorReadS
namespace Go.Proofs.YtfacbdliegemgaaDoor

theorem rs_back {a b : Int} (h : isSpn a b = true) : rsVal (spnT a b) = some (a, b) := by
  have hb := spn_bd h
  have f1 := sOk_itoa (n := a) (by omega) (by omega)
  have f2 := sOk_itoa (n := b) (by omega) (by omega)
  have hs : (spnT a b).data.toList = Lib.itoa a ++ 46 :: 46 :: Lib.itoa b := by
    unfold spnT numT
    simp
  have hc : cutS 46 (spnT a b) = [numT a, ⟨#[]⟩, numT b] := by
    unfold cutS
    rw [hs, cut3_mk (itoa_nodot a) (itoa_nodot b)]
    rfl
  have hw : rsWords (spnT a b) = some (numT a, ⟨#[]⟩, numT b) := by
    unfold rsWords
    rw [hc]
  have e1 : sOkT (numT a) = true ∧ sNumT (numT a) = a := by unfold sOkT sNumT numT; exact f1
  have e2 : sOkT (numT b) = true ∧ sNumT (numT b) = b := by unfold sOkT sNumT numT; exact f2
  rw [rs_of hw]
  unfold rsOf
  rw [e1.1, e1.2, e2.1, e2.2, h]
  rfl
theorem spans_there {a b : Int} (h : stCode a b = 0) : rsCode (stText a b) = 0 ∧ rsSpan (stText a b) = (a, b) := by
  unfold stCode at h
  split at h
  · rename_i hs
    have := (rs_some (rs_back hs)).out
    unfold stText
    rw [if_pos hs]
    exact ⟨this.2, this.1⟩
  · omega
theorem spans_back {s : ByteArray} (h : rsCode s = 0) : stCode (rsSpan s).1 (rsSpan s).2 = 0 ∧ stText (rsSpan s).1 (rsSpan s).2 = s := by
  rcases hv : rsVal s with _ | x
  · have := (rs_none hv).out.2; omega
  · obtain ⟨h1, h2⟩ := rs_span hv
    rw [(rs_some hv).out.1]
    unfold stCode stText
    rw [if_pos h1, if_pos h1]
    exact ⟨rfl, h2⟩
theorem st_code (a b : Int) : (stCode a b = 0 ∧ isSpn a b = true) ∨ (stCode a b = 1 ∧ isSpn a b = false) := by
  unfold stCode
  cases isSpn a b <;> simp
theorem st_size (a b : Int) : (stText a b).size ≤ 100 := by
  unfold stText
  split
  · rename_i h
    have hb := spn_bd h
    have z1 := numT_size (n := a) (decide_eq_true (by omega))
    have z2 := numT_size (n := b) (decide_eq_true (by omega))
    unfold spnT
    rw [ByteArray.size_append, ByteArray.size_append]
    have : (⟨#[46, 46]⟩ : ByteArray).size = 2 := rfl
    omega
  · decide
end Go.Proofs.YtfacbdliegemgaaDoor
