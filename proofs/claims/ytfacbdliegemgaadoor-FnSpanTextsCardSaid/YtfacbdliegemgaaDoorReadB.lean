/- Lists of numbers read from texts: what the reference's l01Numbers computes. -/
import Derived.Test.YtfacbdliegemgaaDoorReadA
namespace Go.Proofs.YtfacbdliegemgaaDoor
open Go.ChangeShapes Go.WideShapes Go.ChangeAt Go.RowKit

def sOkT (s : ByteArray) : Bool := sOk s.data.toList
def sNumT (s : ByteArray) : Int := sNum s.data.toList
def numsOf (L : List ByteArray) : List Int := if L.all sOkT = true then L.map sNumT else []
theorem nums_no {L : List ByteArray} {k : Nat} {x : ByteArray} (h : L[k]? = some x) (hx : sOkT x = false) : L.all sOkT = false ∧ numsOf L = [] := by
  have : L.all sOkT = false := by
    rw [List.all_eq_false]
    exact ⟨x, List.mem_of_getElem? h, by simp [hx]⟩
  unfold numsOf
  rw [this]
  exact ⟨rfl, rfl⟩
theorem nums_step {L : List ByteArray} {k : Nat} {x : ByteArray} (h : L[k]? = some x) (hx : sOkT x = true) (ha : (L.take k).all sOkT = true) : (L.take (k + 1)).all sOkT = true ∧ (L.take (k + 1)).map sNumT = (L.take k).map sNumT ++ [sNumT x] := by
  rw [List.take_add_one, h]
  simp [ha, hx]
theorem nums_end {L : List ByteArray} {k : Nat} (hk : L.length ≤ k) (ha : (L.take k).all sOkT = true) : L.all sOkT = true ∧ numsOf L = (L.take k).map sNumT := by
  rw [List.take_of_length_le hk] at ha ⊢
  unfold numsOf
  rw [ha]
  exact ⟨rfl, rfl⟩
set_option maxRecDepth 100000 in
set_option maxHeartbeats 2000000 in
theorem l01Numbers_any (A : Option Addr) (n c : Nat) (xs : List ByteArray) (w : World) (hx : Strs w A n c xs) (hn : n ≤ 1048577) :
    Calls Tryd.prog 33 #[.slice A n c] w fun e w' => ∃ v, e = .returned (.tuple #[v, .bool (xs.all sOkT)]) ∧ w'.ownsRow w.heap.size 2 1 v (numsOf xs).length ((numsOf xs).map (Value.int .i64)) ∧ Below w.heap.size w w' := by
  have hcm := hx.2.1.cap
  have hnc := hx.2.1.le
  have HX := Lib.hid hx.1
  unfold maxLen at hcm
  obtain ⟨i0, hi, hz0, hz1, hz2⟩ := info_parts infoInt
  go_enter Tryd.func33, Tryd.ntmps33
  go_wp2
  go_loopw [4, 5] (fun rv i wr => ∃ (k : Nat), k ≤ n ∧ i = .int .i64 k ∧ Hid ((xs.take k).all sOkT = true) ∧ Hid (wr.ownsRow w.heap.size 2 1 rv k (((xs.take k).map sNumT).map (Value.int .i64))) ∧ Below w.heap.size w wr) (fun _ i _ => n - (intOf i).toNat)
  case atStart => exact ⟨0, Nat.zero_le _, rfl, rfl, World.ownsRow_lit w #[] 0 (Nat.le_refl _) (by unfold maxLen; omega) rfl, (Below.refl _ _).alloc (Nat.le_refl _) _⟩
  case round =>
    obtain ⟨k, hk, rfl, hok, hown, hb⟩ := hrel
    have hz3 := hb.size
    by_cases hlt : k < n
    · obtain ⟨b, off, rfl, hbl⟩ := hx.at_ k hlt
      obtain ⟨x, hxk, c0, hsz⟩ := hx.el hb hbl k hlt
      have hl := l01Signed_any x wr hsz
      cases hs : sOkT x
      · have HF := Lib.hid (nums_no hxk.out hs)
        unfold sOkT at hs
        rw [hs] at hl
        clear hs
        go_wp2_with fail
        refine hl.mono ?_
        rintro e_ w1 ⟨rfl, h1⟩
        go_wp2
        go_ret2
        exact ⟨_, by rw [HF.out.1]; rfl, by rw [HF.out.2]; exact World.ownsRow_nil _ _ _ _, next hb h1⟩
      · have HF := Lib.hid (nums_step hxk.out hs hok.out)
        unfold sOkT at hs
        rw [hs] at hl
        obtain ⟨q, hq⟩ : ∃ q, sNumT x = q := ⟨_, rfl⟩
        rw [hq] at HF
        unfold sNumT at hq
        rw [hq] at hl
        clear hs hq
        go_wp2_with fail
        refine hl.mono ?_
        rintro e_ w1 ⟨rfl, h1⟩
        have hown1 := own_below hown.out h1
        have hb1 := next hb h1
        have hz4 := hb1.size
        go_wp2_with (at_builtin; refine wpList_append_own _ rfl _ _ 22 rfl w.heap.size 2 i0 (.int .i64 0) 1 8 Tryd.underlying22 hi hz0 hz1 hz2 rfl (by decide) _ _ _ rfl (hown1.alloc _) ⟨w1.heap.size, 0, none⟩ 1 1 [.int .i64 q] rfl rfl ?c1 ?c2 ?c3 ?c4 ?c5 ?_)
        case c1 => exact cell_one_new _ _ _
        case c2 => simp [Value.oneCell']
        case c3 => unfold maxLen; omega
        case c4 => omega
        case c5 => simp; omega
        intro v4 w4 hown4 hgrow hrest
        have HO : Hid (w4.ownsRow w.heap.size 2 1 v4 (k + 1) (((xs.take (k + 1)).map sNumT).map (Value.int .i64))) := Lib.hid (by rw [HF.out.2, List.map_append]; simpa [List.map_take] using hown4)
        have HB : Hid (Below w.heap.size w w4) := (hb1.alloc hz4 _).grown hgrow (by simp; omega) (fun z hz => (hown1.lt z hz).1)
        have c2 := (HB.out.cell (p := ⟨b, off + k, none⟩) hbl).trans ((hb.cell (p := ⟨b, off + k, none⟩) hbl).symm.trans c0)
        clear hown4 hgrow hown1 hrest
        go_wp2
        go_roundw
        case rel => exact ⟨k + 1, by omega, by go_num, HF.out.1, HO.out, HB.out⟩
        case measure => simp [intOf]; omega
    · have HF := Lib.hid (nums_end (by rw [← HX.out]; omega) hok.out)
      have hkn : (numsOf xs).length = k := by rw [HF.out.2]; have := HX.out; simp; omega
      have HO := hown.out
      rw [← HF.out.2, ← hkn] at HO
      replace HO := Lib.hid HO
      clear hkn hown
      go_wp2
      go_ret2
      exact ⟨_, by rw [HF.out.1]; rfl, HO.out, hb⟩
end Go.Proofs.YtfacbdliegemgaaDoor
