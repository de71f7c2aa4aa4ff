/- UselessRules: the program's. -/
import Derived.Test.YtjgcbnngjfchhaaDoorUseA
import Derived.Test.YtjgcbnngjfchhaaDoorRuleE
import Derived.Test.YtjgcbnngjfchhaaDoorRuleF
namespace Go.Proofs.YtjgcbnngjfchhaaDoor
open Go.ChangeShapes Go.WideShapes Go.ChangeAt Go.RowKit
def uAt (T : List Rl) (k : Nat) : Bool := match T[k]? with
  | some x => useless T k x.1 x.2
  | none => false
theorem uAt_is {T : List Rl} {k : Nat} {xs : List Int} {r : ByteArray} (h : T[k]? = some (xs, r)) : uAt T k = useless T k xs r := by unfold uAt; rw [h]
def uslTo (T : List Rl) : Nat → List Int
  | 0 => []
  | k + 1 => if uAt T k = true then uslTo T k ++ [(k : Int)] else uslTo T k
theorem uslTo_len (T : List Rl) : ∀ k, (uslTo T k).length ≤ k
  | 0 => by simp [uslTo]
  | k + 1 => by
    have := uslTo_len T k
    unfold uslTo
    split
    · simp; omega
    · omega
theorem usl_yes {T : List Rl} {k : Nat} (h : uAt T k = true) : uslTo T (k + 1) = uslTo T k ++ [(k : Int)] := by
  conv => lhs; unfold uslTo
  rw [if_pos h]
theorem usl_no {T : List Rl} {k : Nat} (h : uAt T k = false) : uslTo T (k + 1) = uslTo T k := by
  conv => lhs; unfold uslTo
  rw [if_neg (by rw [h]; simp)]
def urList (T : List Rl) : List Int := if isTab T = true then uslTo T T.length else []
theorem ur_len (T : List Rl) : (urList T).length ≤ 30 := by
  unfold urList
  split
  · rename_i h
    have := uslTo_len T T.length
    have := isTab_len h
    omega
  · simp
theorem ur_no {T : List Rl} (h : isTab T = false) : Hid (urList T = [] ∧ scCode T = 1) := by
  unfold Hid urList scCode
  rw [h]; exact ⟨rfl, rfl⟩
theorem ur_ok {T : List Rl} (h : isTab T = true) : Hid (urList T = uslTo T T.length ∧ scCode T = 0) := by
  unfold Hid urList scCode
  rw [h]; exact ⟨rfl, rfl⟩
set_option maxRecDepth 100000 in
set_option maxHeartbeats 2000000 in
theorem UselessRules_impl (A : Option Addr) (n c : Nat) (T : List Rl) (w : World) (hx : Rules w A n c T) :
    Calls Tryd.prog 9 #[.slice A n c] w fun e w' => ∃ v, e = .returned (.tuple #[v, .int .i64 (scCode T)]) ∧ w'.ownsRow w.heap.size 2 1 v (urList T).length ((urList T).map (Value.int .i64)) ∧ Below w.heap.size w w' := by
  cases ha : isTab T
  · have HF := ur_no ha
    go_enter Tryd.func9, Tryd.ntmps9
    go_wp2_with fail
    refine (isb (IsTable_impl A n c T _ hx) ha).mono ?_
    rintro e_ w1 ⟨rfl, h1⟩
    have hc_w1 := bcell h1; have hf_w1 := bfree h1
    go_wp2
    go_ret2
    exact ⟨_, by rw [HF.out.2]; rfl, by rw [HF.out.1]; exact World.ownsRow_nil _ _ _ _, h1⟩
  · have HF := ur_ok ha
    have HX := Lib.hid hx.1
    have hn30 : n ≤ 30 := by have := isTab_len ha; have := hx.1; omega
    have HR := Lib.hid (tab_roman ha)
    have HS := Lib.hid (show ∀ (k : Nat) ys q, T[k]? = some (ys, q) → ys.length ≤ 1000000 from fun k ys q h => by have := rl_len ha h; omega)
    have hcm := hx.cap.2
    have hnc := hx.cap.1
    unfold maxLen at hcm
    obtain ⟨i0, hi, hz0, hz1, hz2⟩ := info_parts infoInt
    go_enter Tryd.func9, Tryd.ntmps9
    go_wp2_with fail
    refine (isb (IsTable_impl A n c T _ hx) ha).mono ?_
    rintro e_ w1 ⟨rfl, h1⟩
    have hc_w1 := bcell h1; have hf_w1 := bfree h1
    clear ha
    replace hx := hx.below h1
    have hz0' := h1.size
    clear hc_w1 hf_w1
    go_wp2
    go_loopw [4, 11] (fun rv i wr => ∃ (k : Nat) (P : List Int), k ≤ n ∧ i = .int .i64 k ∧ Hid (P = uslTo T k) ∧ P.length ≤ k ∧ Hid (wr.ownsRow w1.heap.size 2 1 rv P.length (P.map (Value.int .i64))) ∧ Below w1.heap.size w1 wr) (fun _ i _ => n - (intOf i).toNat)
    case atStart => exact ⟨0, [], Nat.zero_le _, rfl, rfl, Nat.le_refl _, World.ownsRow_nil _ _ _ _, Below.refl _ _⟩
    case round =>
      obtain ⟨k, P, hk, rfl, hP, hPl, hown, hb⟩ := hrel
      have hz3 := hb.size
      by_cases hlt : k < n
      · obtain ⟨b, off, rfl, hbl⟩ := hx.at_ k hlt
        obtain ⟨B', m', d', xs, r, hTk, c0, c1, hz, hrz⟩ := hx.el hb k hlt
        have hu := isUseless_any _ n c k T xs r wr (hx.below hb) hTk.out hlt (by omega) HS.out HR.out
        clear c0 c1 hz hrz
        cases hw : useless T k xs r
        · have HC := Lib.hid (usl_no (T := T) (k := k) (by rw [uAt_is hTk.out]; exact hw))
          rw [hw] at hu
          clear hw
          go_wp2_with fail
          refine hu.mono ?_
          rintro e_ w2 ⟨rfl, h2⟩
          clear hu
          have hb2 := next' hb h2 hz3
          have HO := Lib.hid (own_below hown.out h2)
          clear hown
          go_wp2
          go_roundw
          case rel => exact ⟨k + 1, P, by omega, by go_num, by rw [HC.out, ← hP.out]; rfl, by omega, HO.out, hb2⟩
          case measure => simp [intOf]; omega
        · have HC := Lib.hid (usl_yes (T := T) (k := k) (by rw [uAt_is hTk.out]; exact hw))
          rw [hw] at hu
          clear hw
          go_wp2_with fail
          refine hu.mono ?_
          rintro e_ w2 ⟨rfl, h2⟩
          clear hu
          have hb2 := next' hb h2 hz3
          have hown2 := own_below hown.out h2
          have hz4 := hb2.size
          go_wp2_with (at_builtin; refine wpList_append_own _ rfl _ _ 24 rfl w1.heap.size 2 i0 (.int .i64 0) 1 8 Tryd.underlying24 hi hz0 hz1 hz2 rfl (by decide) _ _ _ rfl (hown2.alloc _) ⟨w2.heap.size, 0, none⟩ 1 1 [.int .i64 k] rfl rfl ?c1 ?c2 ?c3 ?c4 ?c5 ?_)
          case c1 => exact cell_one_new _ _ _
          case c2 => simp [Value.oneCell']
          case c3 => unfold maxLen; omega
          case c4 => omega
          case c5 => (try simp); (try omega)
          intro v4 w4 hown4 hgrow hrest
          have HO : Hid (w4.ownsRow w1.heap.size 2 1 v4 (P ++ [(k : Int)]).length ((P ++ [(k : Int)]).map (Value.int .i64))) := by rw [List.length_append, List.map_append]; exact hown4
          have HB : Hid (Below w1.heap.size w1 w4) := (hb2.alloc hz4 _).grown hgrow (by simp; omega) (fun z hz => (hown2.lt z hz).1)
          clear hown4 hgrow hown2 hrest
          go_wp2
          go_roundw
          case rel => exact ⟨k + 1, P ++ [(k : Int)], by omega, by go_num, by rw [HC.out, ← hP.out]; rfl, by rw [List.length_append]; simp; omega, HO, HB.out⟩
          case measure => simp [intOf]; omega
      · obtain rfl : k = n := by omega
        have HE := Lib.hid (show urList T = P by rw [HF.out.1, hP.out, ← HX.out])
        have HO := Lib.hid (own_mono_ hown.out hz0')
        clear hP hown
        go_wp2
        go_ret2
        exact ⟨_, by rw [HF.out.2]; rfl, by rw [HE.out]; exact HO.out, next h1 hb⟩
end Go.Proofs.YtjgcbnngjfchhaaDoor
