/- Lists of numbers read by the library: what impl's readNumbers computes. -/
import Derived.Test.YtfacbdliegemgaaDoorReadC
namespace Go.Proofs.YtfacbdliegemgaaDoor
open Go.ChangeShapes Go.WideShapes Go.ChangeAt Go.RowKit

theorem own_monoD {w : World} {base base' : Nat} {e : TypeId} {size : Nat} {v : Value} {n : Nat} {xs : List Value} (h : w.ownsRow base e size v n xs) (hb : base' ≤ base) : w.ownsRow base' e size v n xs :=
  ⟨h.1, h.2.imp id fun ⟨g, cap, cur, a, b, r⟩ => ⟨g, cap, cur, a, Nat.le_trans hb b, r⟩⟩
def rOkT (s : ByteArray) : Bool := rOk s.data.toList
def rNumT (s : ByteArray) : Int := rNum s.data.toList
def rNumsOf (L : List ByteArray) : List Int := if L.all rOkT = true then L.map rNumT else []
theorem rnums_no {L : List ByteArray} {k : Nat} {x : ByteArray} (h : L[k]? = some x) (hx : rOkT x = false) : L.all rOkT = false ∧ rNumsOf L = [] := by
  have : L.all rOkT = false := by
    rw [List.all_eq_false]
    exact ⟨x, List.mem_of_getElem? h, by simp [hx]⟩
  unfold rNumsOf
  rw [this]
  exact ⟨rfl, rfl⟩
theorem rnums_step {L : List ByteArray} {k : Nat} {x : ByteArray} (h : L[k]? = some x) (hx : rOkT x = true) (ha : (L.take k).all rOkT = true) : (L.take (k + 1)).all rOkT = true ∧ (L.take (k + 1)).map rNumT = (L.take k).map rNumT ++ [rNumT x] := by
  rw [List.take_add_one, h]
  simp [ha, hx]
theorem rnums_end {L : List ByteArray} {k : Nat} (hk : L.length ≤ k) (ha : (L.take k).all rOkT = true) : L.all rOkT = true ∧ rNumsOf L = (L.take k).map rNumT := by
  rw [List.take_of_length_le hk] at ha ⊢
  unfold rNumsOf
  rw [ha]
  exact ⟨rfl, rfl⟩
set_option maxRecDepth 100000 in
set_option maxHeartbeats 2000000 in
theorem readNumbers_any (s sep : ByteArray) (y : UInt8) (w : World) (hy : sep = ⟨#[y]⟩) (hs : s.size ≤ 1048576) (hm : MaxCell w) (he : ErrCells w) (ht : PowTab w) :
    Calls Tryd.prog 37 #[.string s, .string sep] w fun e w' => ∃ v, e = .returned (.tuple #[v, .bool ((cutS y s).all rOkT)]) ∧ w'.ownsRow w.heap.size 2 1 v (rNumsOf (cutS y s)).length ((rNumsOf (cutS y s)).map (Value.int .i64)) ∧ Below w.heap.size w w' := by
  obtain ⟨m, hm⟩ := hm
  have h := Tryd.strings_Split s sep m w (by omega) hm (by subst hy; exact Nat.le_refl 1)
  have hsp : (Lib.splitB sep 0 (Lib.countB s sep) s) = cutS y s ∧ Lib.countB s sep + 1 = (cutS y s).length := by subst hy; rw [splitB_one, cutS_len]; exact ⟨rfl, rfl⟩
  rw [hsp.1, hsp.2] at h
  have H := Lib.hid h
  clear h hsp hy
  obtain ⟨i0, hi, hz0, hz1, hz2⟩ := info_parts infoInt
  go_enter Tryd.func37, Tryd.ntmps37
  go_wp2_with fail
  refine H.out.mono ?_
  rintro e_ w1 ⟨rfl, rfl⟩
  go_wp2
  obtain ⟨L, hL⟩ : ∃ L, cutS y s = L := ⟨_, rfl⟩
  have HL := Lib.hid hL
  have hln : L.length ≤ s.size + 1 := by rw [← hL]; exact cutS_size y s
  have hsz0 : ∀ x ∈ L, x.size ≤ s.size := by rw [← hL]; exact fun x hx => cutS_each hx
  have hxs : Strs (w.alloc (.cells (L.map Value.string).toArray 9)) (some ⟨w.heap.size, 0, none⟩) L.length L.length L :=
    strs_alloc w _ _ (by unfold maxLen; omega) (fun x hx => by have := hsz0 x hx; unfold maxLen; omega)
  have hb0 : Below w.heap.size w (w.alloc (.cells (L.map Value.string).toArray 9)) := (Below.refl _ _).alloc (Nat.le_refl _) _
  have hW : (w.alloc (.cells (L.map Value.string).toArray 9)).heap.size = w.heap.size + 1 := by simp
  rw [hL]
  generalize w.alloc (.cells (L.map Value.string).toArray 9) = W0 at hxs hb0 hW ⊢
  have hle : w.heap.size ≤ W0.heap.size := by omega
  obtain ⟨n, hn⟩ : ∃ n, L.length = n := ⟨_, rfl⟩
  have HX := Lib.hid hn
  rw [hn] at hxs hln ⊢
  clear hn hL
  have he0 := he.below hb0
  have ht0 := ht.below hb0
  go_loopw [6, 15] (fun rv i wr => ∃ (k : Nat), k ≤ n ∧ i = .int .i64 k ∧ Hid ((L.take k).all rOkT = true) ∧ Hid (wr.ownsRow W0.heap.size 2 1 rv k (((L.take k).map rNumT).map (Value.int .i64))) ∧ Below W0.heap.size W0 wr) (fun _ i _ => n - (intOf i).toNat)
  case atStart => exact ⟨0, Nat.zero_le _, rfl, rfl, World.ownsRow_nil _ _ _ _, Below.refl _ _⟩
  case round =>
    obtain ⟨k, hk, rfl, hok, hown, hb⟩ := hrel
    have hz3 := hb.size
    by_cases hlt : k < n
    · have hbl : w.heap.size < W0.heap.size := by omega
      obtain ⟨x, hxk, c0, hsz⟩ := hxs.el hb hbl k hlt
      rw [Nat.zero_add] at c0
      have hxs1 : x.size ≤ 1048576 := by have := hsz0 x (List.mem_of_getElem? hxk.out); omega
      have hl := readNumber_any x wr hxs1 (he0.below hb) (ht0.below hb)
      cases hq0 : rOkT x
      · have HF := Lib.hid (rnums_no hxk.out hq0)
        unfold rOkT at hq0
        rw [hq0] at hl
        clear hq0
        go_wp2_with fail
        refine hl.mono ?_
        rintro e_ w1 ⟨rfl, h1⟩
        go_wp2
        go_ret2
        exact ⟨_, by rw [HL.out, HF.out.1]; rfl, by rw [HL.out, HF.out.2]; exact World.ownsRow_nil _ _ _ _, next hb0 (next hb h1)⟩
      · have HF := Lib.hid (rnums_step hxk.out hq0 hok.out)
        unfold rOkT at hq0
        rw [hq0] at hl
        obtain ⟨q, hq⟩ : ∃ q, rNumT x = q := ⟨_, rfl⟩
        rw [hq] at HF
        unfold rNumT at hq
        rw [hq] at hl
        clear hq0 hq
        go_wp2_with fail
        refine hl.mono ?_
        rintro e_ w1 ⟨rfl, h1⟩
        have hown1 := own_below hown.out h1
        have hb1 := next hb h1
        have hz4 := hb1.size
        go_wp2_with (at_builtin; refine wpList_append_own _ rfl _ _ 22 rfl W0.heap.size 2 i0 (.int .i64 0) 1 8 Tryd.underlying22 hi hz0 hz1 hz2 rfl (by decide) _ _ _ rfl (hown1.alloc _) ⟨w1.heap.size, 0, none⟩ 1 1 [.int .i64 q] rfl rfl ?c1 ?c2 ?c3 ?c4 ?c5 ?_)
        case c1 => exact cell_one_new _ _ _
        case c2 => simp [Value.oneCell']
        case c3 => unfold maxLen; omega
        case c4 => omega
        case c5 => simp; omega
        intro v4 w4 hown4 hgrow hrest
        have HO : Hid (w4.ownsRow W0.heap.size 2 1 v4 (k + 1) (((L.take (k + 1)).map rNumT).map (Value.int .i64))) := Lib.hid (by rw [HF.out.2, List.map_append]; simpa [List.map_take, hW] using hown4)
        have HB : Hid (Below W0.heap.size W0 w4) := (hb1.alloc hz4 _).grown hgrow (by simp; omega) (fun z hz => (hown1.lt z hz).1)
        clear hown4 hgrow hown1 hrest
        go_wp2
        go_roundw
        case rel => exact ⟨k + 1, by omega, by go_num, HF.out.1, HO.out, HB.out⟩
        case measure => simp [intOf]; omega
    · have HF := Lib.hid (rnums_end (by rw [HX.out]; omega) hok.out)
      have hkn : (rNumsOf L).length = k := by rw [HF.out.2]; have := HX.out; simp; omega
      have HO := hown.out
      rw [← HF.out.2, ← hkn] at HO
      replace HO := Lib.hid HO
      clear hkn hown
      go_wp2
      go_ret2
      exact ⟨_, by rw [HL.out, HF.out.1]; rfl, by rw [HL.out]; exact own_monoD HO.out hle, next hb0 hb⟩
end Go.Proofs.YtfacbdliegemgaaDoor
