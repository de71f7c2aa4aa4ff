/- Draws of phrases. -/
import Derived.Test.YtbhibidgdlaeeaaDoorDrawC
import Derived.Test.YtbhibidgdlaeeaaDoorRepl
namespace Go.Proofs.YtbhibidgdlaeeaaDoor
open Go.ChangeShapes Go.WideShapes Go.ChangeAt Go.RowKit

theorem Src.grownP {w w' : World} {p : Nat} {row : Option Nat} (h : Src w p) (hg : w.grownBy w' row) (hne : ∀ k, row = some k → p < k) : Src w' p := by
  obtain ⟨A, n, c, bs, a, s, S⟩ := h
  have hp : row ≠ some p := fun e => by have := hne p e; omega
  refine ⟨A, n, c, bs, a, s, Nat.lt_of_lt_of_le S.lt hg.size, grown_cell hg S.c0 hp, grown_cell hg S.c1 hp, grown_cell hg S.c2 hp, fun j => ?_, S.s0, S.s1, S.a0, S.a1, S.by_.block hg.size fun hn b off e => ?_, S.bl⟩
  · exact (World.frozen?_of_block (hg.block p S.lt (fun e => hp e.symm))).trans (S.f0 j)
  · have := S.bl hn b off e
    exact hg.block b (by have := S.lt; omega) (fun e2 => by have := hne b e2.symm; omega)
theorem own_srcP {w w' : World} {p base : Nat} {e : TypeId} {size : Nat} {v : Value} {n : Nat} {xs : List Value} (h : w.ownsRow base e size v n xs) (hg : w.grownBy w' (some p)) (hb : p < base) : w'.ownsRow base e size v n xs :=
  own_far h hg fun k hk e => by have := (h.lt k hk).1; injection e with e; omega
/-- what grows a block of its own, new behind w, keeps all that was in w but block p -/
theorem grown_own {w W W' : World} {p : Nat} {row : Option Nat} (h : w.grownBy W (some p)) (hg : W.grownBy W' row) (hne : ∀ k, row = some k → w.heap.size ≤ k) : w.grownBy W' (some p) :=
  ⟨hg.os.trans h.os, hg.tape.trans h.tape, hg.output.trans h.output, Nat.le_trans h.size hg.size, fun k hk hkp => (hg.block k (Nat.lt_of_lt_of_le hk h.size) (fun e => by have := hne k e.symm; omega)).trans (h.block k hk hkp)⟩
theorem total_app (xs : List ByteArray) (x : ByteArray) : total (xs ++ [x]) = total xs + x.size := by unfold total; simp
set_option maxRecDepth 100000 in
set_option maxHeartbeats 4000000 in
theorem l01GoodPhrase_any (p : Nat) (w : World) (h : Src w p) : Calls Tryd.prog 186 #[.pointer (some ⟨p, 0, none⟩)] w (TextPost p 60 w) := by
  have hp := h.lt
  obtain ⟨i0, hi, hz0, hz1, hz2⟩ := info_parts infoStr
  go_enter Tryd.func186, Tryd.ntmps186
  go_wp2_with fail
  have HB := box1 w (.cells #[] 9)
  refine (l01Next_any p 3 _ (h.below HB) (by omega)).mono ?_
  rintro e_ w1 ⟨r, rfl, r0, r1, S1, g1⟩
  have O1 := Lib.hid (own_srcP (World.ownsRow_lit (base := w.heap.size) (e := 9) (size := 1) w #[] 0 (Nat.le_refl _) (by unfold maxLen; omega) rfl) g1 hp)
  have G1 := Lib.hid (grown_trans (grown_below HB (row := some p)) g1)
  have e1 : IntKind.i64.wrap (1 + r) = 1 + r := IntWalk.i64_in _ (by omega)
  obtain ⟨q, hq⟩ : ∃ q : Nat, 1 + r = q := ⟨(1 + r).toNat, by omega⟩
  have hq3 : q ≤ 3 := by omega
  rw [hq] at e1
  have HS := Lib.hid S1
  clear HB g1 S1 h
  go_wp2
  clear hq r0 r1 e1
  go_loopw [3, 4] (fun rv i wr => ∃ (k : Nat) (xs : List ByteArray), k ≤ 3 ∧ i = .int .i64 k ∧ Hid (xs.length + k ≤ 3 ∧ ∀ x ∈ xs, x.size ≤ 12) ∧ Hid (Src wr p) ∧ Hid (wr.ownsRow w.heap.size 9 1 rv xs.length (xs.map Value.string)) ∧ Hid (w.grownBy wr (some p))) (fun _ i _ => (intOf i).toNat)
  case atStart => exact ⟨q, [], hq3, by first | rfl | simp [*], Lib.hid ⟨by simp; omega, by simp⟩, HS, O1, G1⟩
  case round =>
    clear HS O1 G1
    obtain ⟨k, xs, hk, rfl, hlen, hS, hO, hG⟩ := hrel
    by_cases hlt : 0 < k
    · have hj0 : (0 : Int) < (k : Int) := by omega
      go_wp2_with fail
      refine (l01Good_any p _ hS.out).mono ?_
      rintro e_ w2 ⟨x, rfl, hx, S2, g2⟩
      have O2 := own_srcP hO.out g2 hp
      have G2 := Lib.hid (grown_trans hG.out g2)
      have hz2' := S2.lt
      have hle := hlen.out
      clear hO hG hS g2
      go_wp2_with (at_builtin; refine wpList_append_own _ rfl _ _ 67 rfl w.heap.size 9 i0 (.string ⟨#[]⟩) 1 16 Tryd.underlying67 hi hz0 hz1 hz2 rfl (by decide) _ _ _ rfl (O2.alloc _) ⟨w2.heap.size, 0, none⟩ 1 1 [.string x] rfl rfl ?c1 ?c2 ?c3 ?c4 ?c5 ?_)
      case c1 => exact cell_one_new _ _ _
      case c2 => simp [Value.oneCell']
      case c3 => unfold maxLen; omega
      case c4 => omega
      case c5 => have := G2.out.size; simp; omega
      intro v4 w4 own4 grow4 _
      have HO : Hid (w4.ownsRow w.heap.size 9 1 v4 (xs ++ [x]).length ((xs ++ [x]).map Value.string)) := Lib.hid (by simpa using own4)
      have HS := Lib.hid ((S2.below (box1 _ _)).grownP grow4 (fun z hz => by have := (O2.lt z hz).1; omega))
      have HG := Lib.hid (grown_own (grown_trans G2.out (grown_below (box1 w2 (.cells #[.string x] 9)))) grow4 (fun z hz => (O2.lt z hz).1))
      have HL := Lib.hid (show (xs ++ [x]).length + (k - 1) ≤ 3 ∧ ∀ y ∈ xs ++ [x], y.size ≤ 12 from ⟨by simp; omega, fun y hy => by
        rcases List.mem_append.1 hy with h | h
        · exact hle.2 y h
        · rw [List.mem_singleton.1 h]; exact hx⟩)
      have e2 : IntKind.i64.wrap ((k : Int) - 1) = ((k - 1 : Nat) : Int) := by rw [IntWalk.i64_in _ (by omega)]; omega
      clear own4 grow4 O2 S2 G2
      go_wp2
      go_roundw
      case rel => exact ⟨k - 1, xs ++ [x], by omega, rfl, HL, HS, HO, HG⟩
      case measure => simp [intOf]; omega
    · obtain rfl : k = 0 := by omega
      have hle := hlen.out
      have ht : total xs ≤ xs.length * 12 := total_le hle.2
      obtain ⟨A, c, rfl, hx⟩ := own_strs hO.out (fun x hx => by have := hle.2 x hx; unfold maxLen; omega)
      have hjs := joined_size xs
      have hw := fun W h => l01Words_any A xs.length c xs W h (by omega)
      obtain ⟨t, htt⟩ : ∃ t, joined xs = t := ⟨_, rfl⟩
      rw [htt] at hw hjs
      clear htt hO
      go_wp2_with fail
      refine (hw _ hx).mono ?_
      rintro e_ w2 ⟨rfl, h2⟩
      go_wp2
      go_ret
      exact ⟨t, rfl, by omega, hS.out.below h2, grown_trans hG.out (grown_below h2)⟩
theorem lit5 (j : Nat) (h : j < 5) : ∃ x : ByteArray, ([Value.string ⟨#[]⟩, Value.string ⟨#[97, 32, 32, 98]⟩, Value.string ⟨#[32, 97]⟩, Value.string ⟨#[97, 32, 98, 32, 99, 32, 100, 32, 101, 32, 102, 32, 103, 32, 104]⟩, Value.string ⟨#[97, 32, 98, 32, 99, 32, 100, 32, 101, 32, 102, 32, 103, 32, 104, 32, 105]⟩] : List Value)[j]'h = .string x ∧ x.size ≤ 17 := by
  match j, h with
  | 0, _ => exact ⟨_, rfl, by decide⟩
  | 1, _ => exact ⟨_, rfl, by decide⟩
  | 2, _ => exact ⟨_, rfl, by decide⟩
  | 3, _ => exact ⟨_, rfl, by decide⟩
  | 4, _ => exact ⟨_, rfl, by decide⟩
set_option maxRecDepth 100000 in
set_option maxHeartbeats 4000000 in
theorem l01DrawPhrase_any (p : Nat) (w : World) (h : Src w p) : Calls Tryd.prog 156 #[.pointer (some ⟨p, 0, none⟩)] w (TextPost p 61 w) := by
  go_enter Tryd.func156, Tryd.ntmps156
  go_wp2_with fail
  refine (l01GoodPhrase_any p _ h).mono ?_
  rintro e_ w1 ⟨t, rfl, ht, S1, g1⟩
  go_wp2_with fail
  refine (l01Next_any p 20 _ S1 (by omega)).mono ?_
  rintro e_ w2 ⟨r, rfl, r0, r1, S2, g2⟩
  have G2 := grown_trans g1 g2
  by_cases hr0 : r = 0
  · subst hr0
    go_wp2_with fail
    refine (l01Damage_any p t _ S2 (by omega)).mono ?_
    rintro e_ w3 ⟨u, rfl, hu, S3, g3⟩
    go_wp2
    go_ret
    exact ⟨u, rfl, by omega, S3, grown_trans G2 g3⟩
  · have d0 : (r == 0) = false := by simpa using hr0
    by_cases hr1 : r = 1
    · subst hr1
      go_wp2_with fail
      have P0 := parts_alloc w2 [⟨#[]⟩, ⟨#[97, 32, 32, 98]⟩, ⟨#[32, 97]⟩, ⟨#[97, 32, 98, 32, 99, 32, 100, 32, 101, 32, 102, 32, 103, 32, 104]⟩, ⟨#[97, 32, 98, 32, 99, 32, 100, 32, 101, 32, 102, 32, 103, 32, 104, 32, 105]⟩] 9 17 (by decide)
      replace P0 : Parts _ w2.heap.size 5 17 := P0
      have HB := box1 w2 (.cells ([⟨#[]⟩, ⟨#[97, 32, 32, 98]⟩, ⟨#[32, 97]⟩, ⟨#[97, 32, 98, 32, 99, 32, 100, 32, 101, 32, 102, 32, 103, 32, 104]⟩, ⟨#[97, 32, 98, 32, 99, 32, 100, 32, 101, 32, 102, 32, 103, 32, 104, 32, 105]⟩].map Value.string).toArray 9)
      have hp2 := S2.lt
      refine (l01Next_any p 5 _ (S2.below HB) (by omega)).mono ?_
      rintro e_ w3 ⟨k, rfl, k0, k1, S3, g3⟩
      have P3 := P0.grown g3 (by omega)
      have G3 := grown_trans (grown_trans G2 (grown_below HB)) g3
      obtain ⟨j, rfl⟩ : ∃ j : Nat, k = j := ⟨k.toNat, by omega⟩
      obtain ⟨x, hx, hx4⟩ := P3 j (by omega)
      have j1 : (j : Int) < 5 := by omega
      go_wp2
      go_ret
      exact ⟨x, rfl, by omega, S3, G3⟩
    · have d1 : (r == 1) = false := by simpa using hr1
      go_wp2
      go_ret
      exact ⟨t, rfl, by omega, S2, G2⟩
/-- what a draw of a text returns -/
def StrPostP (w : World) (e : Ending) (w' : World) : Prop := ∃ t : ByteArray, e = .returned (.string t) ∧ t.size ≤ 100 ∧ Below w.heap.size w w'
theorem below_srcP {a w w' : World} {p : Nat} (h : Below p a w) (hg : w.grownBy w' (some p)) (hp : a.heap.size = p) : Below p a w' :=
  below_own h hg (Nat.le_of_eq hp.symm) (fun k hk => by injection hk with hk; omega)
theorem DrawIsWord_any (A : Option Addr) (n c : Nat) (bs : List UInt8) (w : World) (hx : Bytes w A n c bs) : Calls Tryd.prog 86 #[.slice A n c] w (StrPostP w) := by
  go_enter Tryd.func86, Tryd.ntmps86
  go_wp2_with fail
  refine (l01From_any A n c bs w hx).mono ?_
  rintro e_ w1 ⟨rfl, S1, b1⟩
  go_wp2_with fail
  refine (l01DrawWord_any _ _ S1).mono ?_
  rintro e_ w2 ⟨t, rfl, ht, S2, g2⟩
  go_wp2
  go_ret
  exact ⟨t, rfl, by omega, below_srcP b1 g2 rfl⟩
theorem DrawWordsOf_any (A : Option Addr) (n c : Nat) (bs : List UInt8) (w : World) (hx : Bytes w A n c bs) : Calls Tryd.prog 77 #[.slice A n c] w (StrPostP w) := by
  go_enter Tryd.func77, Tryd.ntmps77
  go_wp2_with fail
  refine (l01From_any A n c bs w hx).mono ?_
  rintro e_ w1 ⟨rfl, S1, b1⟩
  go_wp2_with fail
  refine (l01DrawPhrase_any _ _ S1).mono ?_
  rintro e_ w2 ⟨t, rfl, ht, S2, g2⟩
  go_wp2
  go_ret
  exact ⟨t, rfl, by omega, below_srcP b1 g2 rfl⟩
end Go.Proofs.YtbhibidgdlaeeaaDoor
