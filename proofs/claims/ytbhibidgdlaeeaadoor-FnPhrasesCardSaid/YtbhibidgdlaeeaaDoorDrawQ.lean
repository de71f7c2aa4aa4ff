/- Draws of lists of words, and of a replacement. -/
import Derived.Test.YtbhibidgdlaeeaaDoorDrawP
import Derived.Deep.RegionWith
namespace Go.Proofs.YtbhibidgdlaeeaaDoor
open Go.ChangeShapes Go.WideShapes Go.ChangeAt Go.RowKit

def lenQ : Value → Nat
  | .slice _ n _ => n
  | _ => 0
/-- what a draw of a list of texts returns -/
def TextsPost (B : Nat) (w : World) (e : Ending) (w' : World) : Prop := ∃ (v : Value) (xs : List ByteArray), e = .returned v ∧ xs.length ≤ B ∧ (∀ x ∈ xs, x.size ≤ 20) ∧ w'.ownsRow w.heap.size 9 1 v xs.length (xs.map Value.string) ∧ Below w.heap.size w w'
set_option maxRecDepth 100000 in
set_option maxHeartbeats 4000000 in
theorem DrawJoinPhrase_any (A : Option Addr) (n c : Nat) (bs : List UInt8) (w : World) (hx : Bytes w A n c bs) : Calls Tryd.prog 80 #[.slice A n c] w (TextsPost 9 w) := by
  obtain ⟨i0, hi, hz0, hz1, hz2⟩ := info_parts infoStr
  go_enter Tryd.func80, Tryd.ntmps80
  go_wp2_with fail
  refine (l01From_any A n c bs w hx).mono ?_
  rintro e_ w1 ⟨rfl, S1, b1⟩
  generalize hp : w.heap.size = p at *
  have hz1p := S1.lt
  go_wp2_with fail
  refine (l01Next_any p 5 _ (S1.below (box1 _ _)) (by omega)).mono ?_
  rintro e_ w2 ⟨r, rfl, r0, r1, S2, g2⟩
  have O2 := Lib.hid (own_srcP (World.ownsRow_lit (base := w1.heap.size) (e := 9) (size := 1) w1 #[] 0 (Nat.le_refl _) (by unfold maxLen; omega) rfl) g2 hz1p)
  have B2 := Lib.hid (below_srcP (b1.alloc (Nat.le_of_lt hz1p) _) g2 hp)
  have hz12 : w1.heap.size ≤ w2.heap.size := by have := g2.size; simp at this; omega
  obtain ⟨q, rfl⟩ : ∃ q : Nat, r = q := ⟨r.toNat, by omega⟩
  have hq : q ≤ 4 := by omega
  have HS2 := Lib.hid S2
  clear S1 g2 b1 hx S2 r0 r1
  go_wp2
  go_loopw [4, 5] (fun rv i wr => ∃ (k : Nat) (xs : List ByteArray), k ≤ 4 ∧ i = .int .i64 k ∧ Hid (xs.length + k ≤ 4 ∧ ∀ x ∈ xs, x.size ≤ 20) ∧ Hid (Src wr p) ∧ Hid (wr.ownsRow w1.heap.size 9 1 rv xs.length (xs.map Value.string)) ∧ Hid (Below p w wr ∧ w1.heap.size ≤ wr.heap.size)) (fun _ i _ => (intOf i).toNat)
  case atStart => exact ⟨q, [], hq, rfl, Lib.hid ⟨by simp; omega, by simp⟩, HS2, O2, Lib.hid ⟨B2.out, hz12⟩⟩
  case round =>
    clear HS2 O2 B2
    obtain ⟨k, xs, hk, rfl, hlen, hS, hO, hB⟩ := hrel
    have hzr := hB.out.2
    replace hB := Lib.hid hB.out.1
    by_cases hlt : 0 < k
    · have hj0 : (0 : Int) < (k : Int) := by omega
      go_wp2_with fail
      refine (l01DrawWord_any p _ hS.out).mono ?_
      rintro e_ w3 ⟨x, rfl, hx, S3, g3⟩
      have O3 := own_srcP hO.out g3 hz1p
      have B3 := Lib.hid (below_srcP hB.out g3 hp)
      have hz3 := g3.size
      have hle := hlen.out
      have hlt3 := S3.lt
      clear hO hB hS g3
      go_wp2_with (at_builtin; refine wpList_append_own _ rfl _ _ 67 rfl w1.heap.size 9 i0 (.string ⟨#[]⟩) 1 16 Tryd.underlying67 hi hz0 hz1 hz2 rfl (by decide) _ _ _ rfl (O3.alloc _) ⟨w3.heap.size, 0, none⟩ 1 1 [.string x] rfl rfl ?c1 ?c2 ?c3 ?c4 ?c5 ?_)
      case c1 => exact cell_one_new _ _ _
      case c2 => simp [Value.oneCell']
      case c3 => unfold maxLen; omega
      case c4 => omega
      case c5 => simp; omega
      intro v6 w6 own6 grow6 hrest
      have HO : Hid (w6.ownsRow w1.heap.size 9 1 v6 (xs ++ [x]).length ((xs ++ [x]).map Value.string)) := Lib.hid (by simpa using own6)
      have HB := Lib.hid ((B3.out.alloc (Nat.le_of_lt hlt3) _).grown grow6 (by simp; omega) (fun z hz => by have := (O3.lt z hz).1; omega))
      have HB2 := Lib.hid (And.intro HB.out (show w1.heap.size ≤ w6.heap.size by have := grow6.size; simp at this; omega))
      have HS := Lib.hid ((S3.below (box1 _ _)).grownP grow6 (fun z hz => by have := (O3.lt z hz).1; omega))
      have HL := Lib.hid (show (xs ++ [x]).length + (k - 1) ≤ 4 ∧ ∀ y ∈ xs ++ [x], y.size ≤ 20 from ⟨by simp; omega, fun y hy => by
        rcases List.mem_append.1 hy with h | h
        · exact hle.2 y h
        · rw [List.mem_singleton.1 h]; omega⟩)
      have e2 : IntKind.i64.wrap ((k : Int) - 1) = ((k - 1 : Nat) : Int) := by rw [IntWalk.i64_in _ (by omega)]; omega
      clear own6 grow6 O3 B3 S3 hrest HB
      go_wp2
      go_roundw
      case rel => exact ⟨k - 1, xs ++ [x], by omega, rfl, HL, HS, HO, HB2⟩
      case measure => simp [intOf]; omega
    · obtain rfl : k = 0 := by omega
      go_wp2_with fail
      refine (l01Next_any p 20 _ hS.out (by omega)).mono ?_
      rintro e_ w3 ⟨a, rfl, a0, a1, S3, g3⟩
      have O3 := Lib.hid (own_srcP hO.out g3 hz1p)
      have B3 := Lib.hid (below_srcP hB.out g3 hp)
      have hz3 := g3.size
      have hle := hlen.out
      clear hO hB hS
      by_cases ha : a = 0
      · subst ha
        obtain ⟨A3, c3, hv3, x3⟩ := own_strs O3.out (fun x hx => by have := hle.2 x hx; unfold maxLen; omega)
        subst hv3
        have HS := Lib.hid S3
        clear S3 g3 x3
        go_wp2
        go_loopw [4] (fun rv wr => ∃ (B : Option Addr) (d : Nat) (ys : List ByteArray), rv = .slice B ys.length d ∧ Hid (ys.length ≤ 9 ∧ ∀ x ∈ ys, x.size ≤ 20) ∧ Hid (Src wr p) ∧ Hid (wr.ownsRow w1.heap.size 9 1 (.slice B ys.length d) ys.length (ys.map Value.string)) ∧ Hid (Below p w wr ∧ w1.heap.size ≤ wr.heap.size)) (fun rv _ => 9 - lenQ rv)
        case atStart => exact ⟨A3, c3, xs, rfl, Lib.hid ⟨by omega, hle.2⟩, HS, O3, Lib.hid ⟨B3.out, by omega⟩⟩
        case round =>
          clear HS O3 B3
          obtain ⟨B, d, ys, rfl, hlen2, hS, hO, hB⟩ := hrel
          have hzr2 := hB.out.2
          replace hB := Lib.hid hB.out.1
          have hle2 := hlen2.out
          go_wp2_with fail
          refine (l01Next_any p 2 _ hS.out (by omega)).mono ?_
          rintro e_ w4 ⟨b, rfl, b0, b1, S4, g4⟩
          have O4 := own_srcP hO.out g4 hz1p
          have B4 := Lib.hid (below_srcP hB.out g4 hp)
          have hz4 := g4.size
          have hlt4 := S4.lt
          have e1 : IntKind.i64.wrap (8 + b) = 8 + b := IntWalk.i64_in _ (by omega)
          clear hO hB hS g4
          by_cases hlt : (ys.length : Int) < 8 + b
          · go_wp2_with (at_builtin; refine wpList_append_own _ rfl _ _ 67 rfl w1.heap.size 9 i0 (.string ⟨#[]⟩) 1 16 Tryd.underlying67 hi hz0 hz1 hz2 rfl (by decide) _ _ _ rfl (O4.alloc _) ⟨w4.heap.size, 0, none⟩ 1 1 [.string ⟨#[97, 115, 104]⟩] rfl rfl ?c1 ?c2 ?c3 ?c4 ?c5 ?_)
            case c1 => exact cell_one_new _ _ _
            case c2 => simp [Value.oneCell']
            case c3 => unfold maxLen; omega
            case c4 => omega
            case c5 => simp; omega
            intro v6 w6 own6 grow6 hrest
            have HO0 : w6.ownsRow w1.heap.size 9 1 v6 (ys ++ [(⟨#[97, 115, 104]⟩ : ByteArray)]).length ((ys ++ [(⟨#[97, 115, 104]⟩ : ByteArray)]).map Value.string) := by simpa using own6
            have HB := Lib.hid ((B4.out.alloc (Nat.le_of_lt hlt4) _).grown grow6 (by simp; omega) (fun z hz => by have := (O4.lt z hz).1; omega))
            have HB2 := Lib.hid (And.intro HB.out (show w1.heap.size ≤ w6.heap.size by have := grow6.size; simp at this; omega))
            have HS := Lib.hid ((S4.below (box1 _ _)).grownP grow6 (fun z hz => by have := (O4.lt z hz).1; omega))
            have HL := Lib.hid (show (ys ++ [(⟨#[97, 115, 104]⟩ : ByteArray)]).length ≤ 9 ∧ ∀ y ∈ ys ++ [(⟨#[97, 115, 104]⟩ : ByteArray)], y.size ≤ 20 from ⟨by simp; omega, fun y hy => by
              rcases List.mem_append.1 hy with h | h
              · exact hle2.2 y h
              · rw [List.mem_singleton.1 h]; decide⟩)
            obtain ⟨A6, c6, rfl, _⟩ := own_strs HO0 (fun x hx => by have := HL.out.2 x hx; unfold maxLen; omega)
            have HO := Lib.hid HO0
            clear own6 grow6 O4 B4 S4 hrest HB HO0
            go_wp2
            go_roundw
            case rel => exact ⟨A6, c6, ys ++ [(⟨#[97, 115, 104]⟩ : ByteArray)], rfl, HL, HS, HO, HB2⟩
            case measure => simp [lenQ]; omega
          · go_wp2
            go_ret
            exact ⟨_, ys, rfl, by omega, hle2.2, by rw [hp]; exact own_base O4 (Nat.le_of_lt hz1p), by rw [hp]; exact B4.out⟩
      · have ha2 : (a == 0) = false := by simpa using ha
        go_wp2
        go_ret
        exact ⟨_, xs, rfl, by omega, hle.2, by rw [hp]; exact own_base O3.out (Nat.le_of_lt hz1p), by rw [hp]; exact B3.out⟩
/-- what a draw of three texts returns -/
def ThreePost (w : World) (e : Ending) (w' : World) : Prop := ∃ s t u : ByteArray, e = .returned (.tuple #[.string s, .string t, .string u]) ∧ s.size ≤ 100 ∧ t.size ≤ 100 ∧ u.size ≤ 100 ∧ Below w.heap.size w w'
set_option maxRecDepth 100000 in
set_option maxHeartbeats 4000000 in
theorem DrawReplaceWord_any (A : Option Addr) (n c : Nat) (bs : List UInt8) (w : World) (hx : Bytes w A n c bs) : Calls Tryd.prog 83 #[.slice A n c] w (ThreePost w) := by
  go_enter Tryd.func83, Tryd.ntmps83
  go_wp2_with fail
  refine (l01From_any A n c bs w hx).mono ?_
  rintro e_ w1 ⟨rfl, S1, b1⟩
  generalize hp : w.heap.size = p at *
  go_wp2_with fail
  refine (l01DrawPhrase_any p _ S1).mono ?_
  rintro e_ w2 ⟨t, rfl, ht, S2, g2⟩
  have B2 := Lib.hid (below_srcP b1 g2 hp)
  clear b1 g2 S1 hx
  have hph := fun W => l01Phrase_any t W (by omega)
  have hcz : (cutS 32 t).length ≤ 62 := by have := cutS_size 32 t; omega
  have hce : ∀ x ∈ cutS 32 t, x.size ≤ 61 := fun x hx => by have := cutS_each hx; omega
  have hcn : 0 < (cutS 32 t).length := by
    rcases hq : cutS 32 t with _ | ⟨x, r⟩
    · unfold cutS at hq
      exact absurd (List.map_eq_nil_iff.1 hq) (cutAt_ne 32 _)
    · simp
  generalize cutS 32 t = L at *
  go_wp2_with fail
  refine (hph _).mono ?_
  rintro e_ w3 ⟨v, rfl, hown, h3⟩
  have S3 := S2.below h3
  have hlt2 := S2.lt
  have B3 := Lib.hid (B2.out.trans (h3.mono (Nat.le_of_lt hlt2)))
  have hz3 := h3.size
  clear h3 B2
  cases hok : isPhrase t
  · go_wp2_with fail
    refine (l01DrawWord_any p _ S3).mono ?_
    rintro e_ w4 ⟨x, rfl, hx, S4, g4⟩
    go_wp2_with fail
    refine (l01DrawWord_any p _ S4).mono ?_
    rintro e_ w5 ⟨y, rfl, hy, S5, g5⟩
    go_wp2
    exact bodyPost_ret (v := .tuple #[.string t, .string x, .string y]) (by simp [results, Tryd.results83, go_sem]) rfl ⟨t, x, y, rfl, by omega, by omega, by omega, by rw [hp]; exact below_srcP (below_srcP B3.out g4 hp) g5 hp⟩
  · have O3 := hown hok
    obtain ⟨A3, c3, rfl, x3⟩ := own_strs O3 (fun x hx => by have := hce x hx; unfold maxLen; omega)
    have hlt3 := fun k hk => O3.lt k hk
    go_wp2_with fail
    refine (l01Next_any p 3 _ S3 (by omega)).mono ?_
    rintro e_ w4 ⟨r, rfl, r0, r1, S4, g4⟩
    have B4 := Lib.hid (below_srcP B3.out g4 hp)
    have O4 := own_srcP O3 g4 hlt2
    have x4 := own_strs O4 (fun x hx => by have := hce x hx; unfold maxLen; omega)
    obtain ⟨A4, c4, hv4, x4⟩ := x4
    injection hv4 with hA _ hc
    subst hA; subst hc
    obtain ⟨g, off, rfl, hg⟩ := x4.at_ 0 hcn
    have hgp : p < g := by have := (hlt3 g rfl).1; omega
    have hP : Hid (∀ j, j < L.length → ∃ x : ByteArray, w4.cell? ⟨g, off + j, none⟩ = some (.string x) ∧ x.size ≤ 61) := Lib.hid fun j hj => by
      obtain ⟨x, hxj, c0, _⟩ := x4.el (Below.refl _ _) hg j hj
      exact ⟨x, c0, hce x (List.mem_of_getElem? hxj.out)⟩
    have hcm := x4.2.1.cap
    have hnc := x4.2.1.le
    unfold maxLen at hcm
    have hne : (some p : Option Nat) ≠ some g := fun e => by injection e with e; omega
    clear B3 S3 g4 O3 x3 hown O4 x4 hlt3
    by_cases hr : 0 < r
    · go_wp2_with fail
      (go_region_with (first
        | (go_at_call 119; refine (l01Next_any p L.length _ (by first | exact S4.below (Below.refl _ _).drew) (by omega)).mono ?_; rintro e_ w5 ⟨k5, rfl, k50, k51, S5, g5⟩; have hj : ∃ j : Nat, k5 = j := ⟨k5.toNat, by omega⟩; obtain ⟨j, rfl⟩ := hj; have j3 : j < L.length := (by omega); have j4 : (j : Int) < L.length := (by omega); have hx0 := hP.out j j3; obtain ⟨x, hx, hx2⟩ := hx0; have hx5 : w5.cell? ⟨g, off + j, none⟩ = some (.string x) := grown_cell g5 (show w4.drew.cell? ⟨g, off + j, none⟩ = some (.string x) from hx) hne)
        | (go_at_call 146; refine (l01DrawWord_any p _ (by first | exact S5)).mono ?_; rintro e_ w6 ⟨y, rfl, hy, S6, g6⟩; have hx6 : w6.cell? ⟨g, off + j, none⟩ = some (.string x) := grown_cell g6 hx5 hne)))
      all_goals
        go_wp2
        exact bodyPost_ret (v := .tuple #[.string t, .string x, .string y]) (by simp [results, Tryd.results83, go_sem]) rfl ⟨t, x, y, rfl, by omega, by omega, by omega, by rw [hp]; exact below_srcP (below_srcP B4.out.drew g5 hp) g6 hp⟩
    · have hr2 : ¬ (0 : Int) < r := hr
      go_wp2_with fail
      refine (l01DrawWord_any p _ S4).mono ?_
      rintro e_ w5 ⟨x, rfl, hx, S5, g5⟩
      go_wp2_with fail
      refine (l01DrawWord_any p _ S5).mono ?_
      rintro e_ w6 ⟨y, rfl, hy, S6, g6⟩
      go_wp2
      exact bodyPost_ret (v := .tuple #[.string t, .string x, .string y]) (by simp [results, Tryd.results83, go_sem]) rfl ⟨t, x, y, rfl, by omega, by omega, by omega, by rw [hp]; exact below_srcP (below_srcP B4.out g5 hp) g6 hp⟩
end Go.Proofs.YtbhibidgdlaeeaaDoor
