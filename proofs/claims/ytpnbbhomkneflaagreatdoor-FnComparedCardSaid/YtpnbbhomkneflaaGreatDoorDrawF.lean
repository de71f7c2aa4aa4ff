/- Draws of lists of phrases, for comparing. -/
import Derived.Test.YtpnbbhomkneflaaGreatDoorDrawE
namespace Go.Proofs.YtpnbbhomkneflaaGreatDoor
open Go.ChangeShapes Go.WideShapes Go.ChangeAt Go.RowKit

theorem lit4b (j : Nat) (h : j < 4) : ∃ x : ByteArray, ([Value.string ⟨#[]⟩, Value.string ⟨#[32, 98, 121]⟩, Value.string ⟨#[97]⟩, Value.string ⟨#[32, 97, 115, 104]⟩] : List Value)[j]'h = .string x ∧ x.size ≤ 4 := by
  match j, h with
  | 0, _ => exact ⟨_, rfl, by decide⟩
  | 1, _ => exact ⟨_, rfl, by decide⟩
  | 2, _ => exact ⟨_, rfl, by decide⟩
  | 3, _ => exact ⟨_, rfl, by decide⟩
theorem cell_new_at {w : World} {a : Value} {e : TypeId} {k : Nat} (hk : w.heap.size = k) : ∀ j u, [a][j]? = some u → (w.alloc (.cells #[a] e)).cell? ((⟨k, 0, none⟩ : Addr).add j) = some u := by
  subst hk
  exact cell_one_new _ _ _
def lenE : Value → Nat
  | .slice _ n _ => n
  | _ => 0
/-- phrases that are not long, the first of them shorter -/
def ShortP (ps : List ByteArray) : Prop := (∀ x ∈ ps, x.size ≤ 100) ∧ ∀ x, ps[0]? = some x → x.size ≤ 60
theorem ShortP.snoc {ps : List ByteArray} {t : ByteArray} (h : ShortP ps) (ht : t.size ≤ 100) (h0 : ps.length = 0 → t.size ≤ 60) : ShortP (ps ++ [t]) := by
  refine ⟨fun x hx => ?_, fun x hx => ?_⟩
  · rcases List.mem_append.1 hx with e | e
    · exact h.1 x e
    · rw [List.mem_singleton.1 e]; exact ht
  · by_cases hl : ps.length = 0
    · have : ps = [] := List.length_eq_zero_iff.1 hl
      subst this
      simp at hx
      subst hx
      exact h0 rfl
    · rw [List.getElem?_append_left (by omega)] at hx
      exact h.2 x hx
/-- what a draw of an alphabet and phrases returns -/
def LListPost (w : World) (e : Ending) (w' : World) : Prop := ∃ (v : Value) (g c : Nat) (xs ps : List ByteArray), e = .returned (.tuple #[v, .slice (some ⟨g, 0, none⟩) ps.length c]) ∧ xs.length ≤ 60 ∧ (∀ x ∈ xs, x.size ≤ 4) ∧ ps.length ≤ 21 ∧ (∀ x ∈ ps, x.size ≤ 100) ∧ w'.ownsRow w.heap.size 9 1 v xs.length (xs.map Value.string) ∧ w'.ownsRow w.heap.size 9 1 (.slice (some ⟨g, 0, none⟩) ps.length c) ps.length (ps.map Value.string) ∧ Below w.heap.size w w'
set_option maxRecDepth 100000 in
set_option maxHeartbeats 8000000 in
theorem l06List_any (A : Option Addr) (n c : Nat) (bs : List UInt8) (w : World) (hx : Bytes w A n c bs) : Calls Tryz.prog 16 #[.slice A n c] w (LListPost w) := by
  obtain ⟨i0, hi, hz0, hz1, hz2⟩ := info_parts infoStr
  go_enter Tryz.func16, Tryz.ntmps16
  go_wp2_with fail
  refine (l01From_any A n c bs w hx).mono ?_
  rintro e_ w1 ⟨rfl, S1, b1⟩
  have hp1 := S1.lt
  generalize hp : w.heap.size = p at *
  go_wp2_with fail
  refine (l06Letters_any p _ S1).mono ?_
  rintro e_ w2 ⟨v, xs, rfl, hxl, hxz, O2, S2, g2⟩
  have hkv : ∀ k, v.ownBlock = some k → k < w2.heap.size ∧ p < k := fun k hk => ⟨(O2.lt k hk).2, by have := (O2.lt k hk).1; omega⟩
  have B2 := below_own b1 g2 (Nat.le_of_eq hp.symm) (fun k hk => by injection hk with hk; omega)
  have hz12 := g2.size
  have L2 := own_base O2 (show p ≤ w1.heap.size by omega)
  clear O2 b1 g2 S1 hx
  go_wp2_with fail
  have HB := box1 w2 (.cells #[] 9)
  have O3 := World.ownsRow_lit (base := w2.heap.size) (e := 9) (size := 1) w2 #[] 0 (Nat.le_refl _) (by unfold maxLen; omega) rfl
  refine (l01Next_any p 6 _ (S2.below HB) (by omega)).mono ?_
  rintro e_ w3 ⟨m, rfl, m0, m1, S3, g3⟩
  have hpw2 := S2.lt
  have HO := Lib.hid (own_srcP O3 g3 hpw2)
  have HL := Lib.hid (own_far (own_below L2 HB) g3 (fun k hk e => by have := (hkv k hk).2; injection e with e; omega))
  have HBB := Lib.hid (below_own (B2.trans (HB.mono (by omega))) g3 (Nat.le_of_eq hp.symm) (fun k hk => by injection hk with hk; omega))
  have HS := Lib.hid S3
  have HZ := Lib.hid (show w2.heap.size ≤ w3.heap.size by have := g3.size; simp at this; omega)
  obtain ⟨q, rfl⟩ : ∃ q : Nat, m = q := ⟨m.toNat, by omega⟩
  have hq5 : q ≤ 5 := by omega
  clear O3 L2 B2 g3 S3 S2 HB m0 m1
  go_wp2
  go_loopw [6, 7] (fun rv i wr => ∃ (k c g : Nat) (ps : List ByteArray), i = .int .i64 k ∧ rv = .slice (some ⟨g, 0, none⟩) ps.length c ∧ Hid (ps.length + k ≤ 5) ∧ Hid (ShortP ps) ∧ Hid (Src wr p) ∧ Hid (wr.ownsRow w2.heap.size 9 1 (.slice (some ⟨g, 0, none⟩) ps.length c) ps.length (ps.map Value.string)) ∧ Hid (wr.ownsRow p 9 1 v xs.length (xs.map Value.string)) ∧ Hid (Below p w wr) ∧ Hid (w2.heap.size ≤ wr.heap.size)) (fun _ i _ => (intOf i).toNat)
  case atStart => exact ⟨q, 0, w2.heap.size, [], rfl, rfl, Lib.hid (by simp; omega), Lib.hid ⟨by simp, by simp⟩, HS, HO, HL, HBB, HZ⟩
  case round =>
    clear HS HO HL HBB HZ
    obtain ⟨k, c, g, ps, rfl, rfl, hlen, hsh, hS, hO, hL, hB, hZ⟩ := hrel
    have hle := hlen.out
    by_cases hlt : 0 < k
    · have hj0 : (0 : Int) < (k : Int) := by omega
      have ek : IntKind.i64.wrap ((k : Int) - 1) = ((k - 1 : Nat) : Int) := by rw [IntWalk.i64_in _ (by omega)]; omega
      go_wp2_with fail
      refine (l01GoodPhrase_any p _ hS.out).mono ?_
      rintro e_ w4 ⟨t, rfl, ht, S4, g4⟩
      have O4 := own_srcP hO.out g4 hpw2
      have L4 := own_far hL.out g4 (fun k hk e => by have := (hkv k hk).2; injection e with e; omega)
      have B4 := below_own hB.out g4 (Nat.le_of_eq hp.symm) (fun k hk => by injection hk with hk; omega)
      have Z4 : w2.heap.size ≤ w4.heap.size := Nat.le_trans hZ.out g4.size
      clear hO hL hB hZ hS g4
      by_cases hl0 : ps.length = 0
      · have HH := Lib.hid hl0
        have d0 : ¬ (0 : Int) < ((ps.length : Nat) : Int) := by omega
        clear hl0
        go_wp2_with (at_builtin; go_loud (refine wpList_append_own _ rfl _ _ 24 rfl w2.heap.size 9 i0 (.string ⟨#[]⟩) 1 16 Tryz.underlying24 hi hz0 hz1 hz2 rfl (by decide) _ _ _ rfl (O4.alloc _) ⟨w4.heap.size, 0, none⟩ 1 1 [.string t] rfl rfl ?c1 ?c2 ?c3 ?c4 ?c5 ?_))
        case c1 => exact cell_one_new _ _ _
        case c2 => simp [Value.oneCell']
        case c3 => unfold maxLen; omega
        case c4 => omega
        case c5 => simp; omega
        intro v5 w5 own5 grow5 _
        have HO0 : w5.ownsRow w2.heap.size 9 1 v5 (ps ++ [t]).length ((ps ++ [t]).map Value.string) := by simpa using own5
        obtain ⟨g5, c5, hv5⟩ := own_at HO0 (by simp)
        subst hv5
        have HO := Lib.hid HO0
        have HS := Lib.hid ((S4.below (box1 w4 (.cells #[.string t] 9))).grownP grow5 (fun z hz => by have := (O4.lt z hz).1; omega))
        have HL := Lib.hid (own_far (own_below L4 (box1 w4 (.cells #[.string t] 9))) grow5 (fun k hk e => by have := (hkv k hk).1; have := (O4.lt k e).1; omega))
        have HBB := Lib.hid (below_own (B4.trans ((box1 w4 (.cells #[.string t] 9)).mono (by omega))) grow5 (Nat.le_of_eq hp.symm) (fun k hk => by have := (O4.lt k hk).1; omega))
        have HZ := Lib.hid (show w2.heap.size ≤ w5.heap.size by have := grow5.size; simp at this; omega)
        have HSH := Lib.hid (ShortP.snoc hsh.out (t := t) (by omega) (fun _ => ht))
        clear d0 own5 grow5 O4 L4 B4 Z4 S4 HO0
        go_wp2
        go_roundw
        case rel => exact ⟨k - 1, c5, g5, ps ++ [t], by first | rfl | exact congrArg _ ek, (by simp), Lib.hid (by simp; omega), HSH, HS, HO, HL, HBB, HZ⟩
        case measure => simp [intOf]; omega
      · have d0 : (0 : Int) < ((ps.length : Nat) : Int) := by omega
        go_wp2_with fail
        refine (l01Next_any p 3 _ S4 (by omega)).mono ?_
        rintro e_ w5 ⟨r, rfl, r0, r1, S5, g5⟩
        have O5 := own_srcP O4 g5 hpw2
        have L5 := own_far L4 g5 (fun k hk e => by have := (hkv k hk).2; injection e with e; omega)
        have B5 := below_own B4 g5 (Nat.le_of_eq hp.symm) (fun k hk => by injection hk with hk; omega)
        have Z5 : w2.heap.size ≤ w5.heap.size := Nat.le_trans Z4 g5.size
        clear O4 L4 B4 Z4 S4 g5
        by_cases hr : r = 0
        · subst hr
          have c0 := O5.cellAt 0 (by omega)
          obtain ⟨x0, hx0⟩ : ∃ x0, ps[0]? = some x0 := ⟨ps[0], List.getElem?_eq_getElem (by omega)⟩
          rw [List.getElem?_map, hx0] at c0
          replace c0 : w5.cell? ⟨g, 0, none⟩ = some (.string x0) := c0
          have hx60 := hsh.out.2 x0 hx0
          have hgl := (O5.lt g rfl).2
          have hpg : p < g := by have := (O5.lt g rfl).1; omega
          have hgp : (some p : Option Nat) ≠ some g := fun e => by injection e with e; omega
          have hzd := S5.lt
          go_wp2_with fail
          have S5d := S5.below (Below.refl _ _).drew
          have c0d : w5.drew.cell? ⟨g, 0, none⟩ = some (.string x0) := c0
          have c0e : (w5.alloc (.cells #[.string ⟨#[]⟩, .string ⟨#[32, 98, 121]⟩, .string ⟨#[97]⟩, .string ⟨#[32, 97, 115, 104]⟩] 9)).drew.cell? ⟨g, 0, none⟩ = some (.string x0) := (show (w5.alloc (.cells #[.string ⟨#[]⟩, .string ⟨#[32, 98, 121]⟩, .string ⟨#[97]⟩, .string ⟨#[32, 97, 115, 104]⟩] 9)).cell? ⟨g, 0, none⟩ = some (.string x0) from cell_keep (box1 w5 (.cells #[.string ⟨#[]⟩, .string ⟨#[32, 98, 121]⟩, .string ⟨#[97]⟩, .string ⟨#[32, 97, 115, 104]⟩] 9)) c0)
          have S5e := (S5.below (box1 w5 (.cells #[.string ⟨#[]⟩, .string ⟨#[32, 98, 121]⟩, .string ⟨#[97]⟩, .string ⟨#[32, 97, 115, 104]⟩] 9))).below (Below.refl _ _).drew
          have P5e : Parts (w5.alloc (.cells #[.string ⟨#[]⟩, .string ⟨#[32, 98, 121]⟩, .string ⟨#[97]⟩, .string ⟨#[32, 97, 115, 104]⟩] 9)).drew w5.heap.size 4 4 := (show Parts (w5.alloc (.cells #[.string ⟨#[]⟩, .string ⟨#[32, 98, 121]⟩, .string ⟨#[97]⟩, .string ⟨#[32, 97, 115, 104]⟩] 9)) w5.heap.size 4 4 from parts_alloc w5 [⟨#[]⟩, ⟨#[32, 98, 121]⟩, ⟨#[97]⟩, ⟨#[32, 97, 115, 104]⟩] 9 4 (by decide)).below (Below.refl _ _).drew
          have O5d := own_below O5 (Below.refl _ _).drew
          have L5d := own_below L5 (Below.refl _ _).drew
          have O5e := own_below (own_below O5 (box1 w5 (.cells #[.string ⟨#[]⟩, .string ⟨#[32, 98, 121]⟩, .string ⟨#[97]⟩, .string ⟨#[32, 97, 115, 104]⟩] 9))) (Below.refl _ _).drew
          have L5e := own_below (own_below L5 (box1 w5 (.cells #[.string ⟨#[]⟩, .string ⟨#[32, 98, 121]⟩, .string ⟨#[97]⟩, .string ⟨#[32, 97, 115, 104]⟩] 9))) (Below.refl _ _).drew
          have hpz : p < w5.heap.size := S5.lt
          (go_region_with (first
            | (go_at_call 31; refine (l01Next_any p 4 _ (by first | exact S5d | exact S5e) (by omega)).mono ?_; rintro e_ w6 ⟨y, rfl, y0, y1, S6, g6⟩; have hj : ∃ j : Nat, y = j := ⟨y.toNat, by omega⟩; obtain ⟨j, rfl⟩ := hj; have j3 : j < 4 := (by omega); have j4 : (j : Int) < 4 := (by omega); have j5 : (0 : Int) ≤ j := (by omega); have hgw6 : g < w6.heap.size := (by have := g6.size; simp at this; omega); have hww6 : w5.heap.size ≤ w6.heap.size := (by have := g6.size; simp at this; omega);
                first
                  | (have hx0 := (P5e.grown g6 (by omega)) j j3; obtain ⟨xv, hx, hv2⟩ := hx0; have hc6 : w6.cell? ⟨g, 0, none⟩ = some (.string x0) := grown_cell g6 c0e hgp; have hwl6 : w5.heap.size < w6.heap.size := (by have := g6.size; simp at this; omega); have O6 := own_srcP O5e g6 hpw2; have L6 := own_far L5e g6 (fun k hk e => by have := (hkv k hk).2; injection e with e; omega); have B6 := Lib.hid (below_own ((B5.trans ((box1 w5 (.cells #[.string ⟨#[]⟩, .string ⟨#[32, 98, 121]⟩, .string ⟨#[97]⟩, .string ⟨#[32, 97, 115, 104]⟩] 9)).mono (by omega))).drew) g6 (Nat.le_of_eq hp.symm) (fun k hk => by injection hk with hk; omega)); have hW7 := Below.refl w6.heap.size w6)
                  | (have hv0 := lit4b j j3; obtain ⟨xv, hv, hv2⟩ := hv0; have hc6 : w6.cell? ⟨g, 0, none⟩ = some (.string x0) := grown_cell g6 c0d hgp; have O6 := own_srcP O5d g6 hpw2; have L6 := own_far L5d g6 (fun k hk e => by have := (hkv k hk).2; injection e with e; omega); have B6 := Lib.hid (below_own (B5.drew) g6 (Nat.le_of_eq hp.symm) (fun k hk => by injection hk with hk; omega)); have hW7 := box1 w6 (.cells #[.string ⟨#[]⟩, .string ⟨#[32, 98, 121]⟩, .string ⟨#[97]⟩, .string ⟨#[32, 97, 115, 104]⟩] 9)))))
          all_goals
            have O7 := own_below O6 hW7
            have L7 := own_below L6 hW7
            have S7 := S6.below hW7
            have B7 := Lib.hid (B6.out.trans (hW7.mono (by omega)))
            have Z7 := Nat.le_trans (Nat.le_trans Z5 hww6) hW7.size
            have hZ7 : w2.heap.size + 0 ≤ w6.heap.size := by omega
            have htz : (x0 ++ xv).size ≤ 100 := by rw [ByteArray.size_append]; omega
            generalize x0 ++ xv = t9 at *
            clear O6 L6 S6 B6 O5 L5 S5 B5 S5d S5e O5d O5e L5d L5e c0d c0e P5e c0
            go_wp2_with (at_builtin; refine wpList_append_own _ rfl _ _ 24 rfl w2.heap.size 9 i0 (.string ⟨#[]⟩) 1 16 Tryz.underlying24 hi hz0 hz1 hz2 rfl (by decide) _ _ _ rfl (O7.alloc _) _ 1 1 [.string t9] rfl rfl ?c1 ?c2 ?c3 ?c4 ?c5 ?_)
            case c1 => first | exact cell_one_new _ _ _ | exact cell_new_at (by simp)
            case c2 => simp [Value.oneCell']
            case c3 => unfold maxLen; omega
            case c4 => omega
            case c5 => simp at Z7 ⊢; omega
            intro v8 w8 own8 grow8 _
            have HO0 : w8.ownsRow w2.heap.size 9 1 v8 (ps ++ [t9]).length ((ps ++ [t9]).map Value.string) := by simpa using own8
            obtain ⟨g8, c8, hv8⟩ := own_at HO0 (by simp)
            subst hv8
            have HO := Lib.hid HO0
            have HS := Lib.hid ((S7.below (box1 _ _)).grownP grow8 (fun z hz => by have := (O7.lt z hz).1; omega))
            have HL := Lib.hid (own_far (own_below L7 (box1 _ _)) grow8 (fun k hk e => by have := (hkv k hk).1; have := (O7.lt k e).1; omega))
            have HBB := Lib.hid (below_own (B7.out.trans ((box1 _ _).mono (by have := B7.out.size; omega))) grow8 (Nat.le_of_eq hp.symm) (fun k hk => by have := (O7.lt k hk).1; omega))
            have HZ := Lib.hid (show w2.heap.size ≤ w8.heap.size from Nat.le_trans Z7 (by have := grow8.size; simp at this ⊢; omega))
            have HSH := Lib.hid (ShortP.snoc hsh.out (t := t9) htz (fun e => absurd e hl0))
            clear own8 grow8 O7 L7 B7 Z7 S7 HO0 hW7
            go_wp2
            go_roundw
            case rel => exact ⟨k - 1, c8, g8, ps ++ [t9], by first | rfl | exact congrArg _ ek, (by simp), Lib.hid (by simp; omega), HSH, HS, HO, HL, HBB, HZ⟩
            case measure => simp [intOf]; omega
        · have d1 : (r == 0) = false := by simpa using hr
          go_wp2_with (at_builtin; refine wpList_append_own _ rfl _ _ 24 rfl w2.heap.size 9 i0 (.string ⟨#[]⟩) 1 16 Tryz.underlying24 hi hz0 hz1 hz2 rfl (by decide) _ _ _ rfl (O5.alloc _) ⟨w5.heap.size, 0, none⟩ 1 1 [.string t] rfl rfl ?c1 ?c2 ?c3 ?c4 ?c5 ?_)
          case c1 => exact cell_one_new _ _ _
          case c2 => simp [Value.oneCell']
          case c3 => unfold maxLen; omega
          case c4 => omega
          case c5 => simp; omega
          intro v6 w6 own6 grow6 _
          have HO0 : w6.ownsRow w2.heap.size 9 1 v6 (ps ++ [t]).length ((ps ++ [t]).map Value.string) := by simpa using own6
          obtain ⟨g6, c6, hv6⟩ := own_at HO0 (by simp)
          subst hv6
          have HO := Lib.hid HO0
          have HS := Lib.hid ((S5.below (box1 w5 (.cells #[.string t] 9))).grownP grow6 (fun z hz => by have := (O5.lt z hz).1; omega))
          have HL := Lib.hid (own_far (own_below L5 (box1 w5 (.cells #[.string t] 9))) grow6 (fun k hk e => by have := (hkv k hk).1; have := (O5.lt k e).1; omega))
          have HBB := Lib.hid (below_own (B5.trans ((box1 w5 (.cells #[.string t] 9)).mono (by omega))) grow6 (Nat.le_of_eq hp.symm) (fun k hk => by have := (O5.lt k hk).1; omega))
          have HZ := Lib.hid (show w2.heap.size ≤ w6.heap.size by have := grow6.size; simp at this; omega)
          have HSH := Lib.hid (ShortP.snoc hsh.out (t := t) (by omega) (fun e => absurd e hl0))
          clear own6 grow6 O5 L5 B5 Z5 S5 HO0
          go_wp2
          go_roundw
          case rel => exact ⟨k - 1, c6, g6, ps ++ [t], by first | rfl | exact congrArg _ ek, (by simp), Lib.hid (by simp; omega), HSH, HS, HO, HL, HBB, HZ⟩
          case measure => simp [intOf]; omega
    · obtain rfl : k = 0 := by omega
      have hl5 : ps.length ≤ 5 := by omega
      go_wp2_with fail
      refine (l01Next_any p 24 _ hS.out (by omega)).mono ?_
      rintro e_ w3 ⟨r, rfl, r0, r1, S3, g3⟩
      have O3 := own_srcP hO.out g3 hpw2
      have L3 := own_far hL.out g3 (fun k hk e => by have := (hkv k hk).2; injection e with e; omega)
      have B3 := below_own hB.out g3 (Nat.le_of_eq hp.symm) (fun k hk => by injection hk with hk; omega)
      have Z3 : w2.heap.size ≤ w3.heap.size := Nat.le_trans hZ.out g3.size
      have hsh1 := hsh.out.1
      clear hO hL hB hZ hS g3
      by_cases hr0 : r = 0
      · subst hr0
        go_wp2_with fail
        refine (l01DrawPhrase_any p _ S3).mono ?_
        rintro e_ w4 ⟨t, rfl, ht, S4, g4⟩
        have O4 := own_srcP O3 g4 hpw2
        have L4 := own_far L3 g4 (fun k hk e => by have := (hkv k hk).2; injection e with e; omega)
        have B4 := below_own B3 g4 (Nat.le_of_eq hp.symm) (fun k hk => by injection hk with hk; omega)
        have Z4 : w2.heap.size ≤ w4.heap.size := Nat.le_trans Z3 g4.size
        clear O3 L3 B3 Z3 S3 g4
        go_wp2_with (at_builtin; refine wpList_append_own _ rfl _ _ 24 rfl w2.heap.size 9 i0 (.string ⟨#[]⟩) 1 16 Tryz.underlying24 hi hz0 hz1 hz2 rfl (by decide) _ _ _ rfl (O4.alloc _) ⟨w4.heap.size, 0, none⟩ 1 1 [.string t] rfl rfl ?c1 ?c2 ?c3 ?c4 ?c5 ?_)
        case c1 => exact cell_one_new _ _ _
        case c2 => simp [Value.oneCell']
        case c3 => unfold maxLen; omega
        case c4 => omega
        case c5 => simp; omega
        intro v9 w9 own9 grow9 _
        have HO0 : w9.ownsRow w2.heap.size 9 1 v9 (ps ++ [t]).length ((ps ++ [t]).map Value.string) := by simpa using own9
        obtain ⟨g9, c9, hv9⟩ := own_at HO0 (by simp)
        subst hv9
        have HO := Lib.hid HO0
        have HS := Lib.hid ((S4.below (box1 w4 (.cells #[.string t] 9))).grownP grow9 (fun z hz => by have := (O4.lt z hz).1; omega))
        have HL := Lib.hid (own_far (own_below L4 (box1 w4 (.cells #[.string t] 9))) grow9 (fun k hk e => by have := (hkv k hk).1; have := (O4.lt k e).1; omega))
        have HBB := Lib.hid (below_own (B4.trans ((box1 w4 (.cells #[.string t] 9)).mono (by omega))) grow9 (Nat.le_of_eq hp.symm) (fun k hk => by have := (O4.lt k hk).1; omega))
        have HZ := Lib.hid (show w2.heap.size ≤ w9.heap.size by have := grow9.size; simp at this; omega)
        clear own9 grow9 O4 L4 B4 Z4 S4 HO0
        go_wp2
        go_ret2
        exact ⟨v, g9, c9, xs, ps ++ [t], rfl, hxl, hxz, by simp; omega, fun x hx => by
          rcases List.mem_append.1 hx with e | e
          · exact hsh1 x e
          · rw [List.mem_singleton.1 e]; omega, by rw [hp]; exact HL.out, own_base HO.out (by omega), by rw [hp]; exact HBB.out⟩
      · have d0 : (r == 0) = false := by simpa using hr0
        by_cases hr1 : r = 1
        · subst hr1
          have HO := Lib.hid O3
          have HL := Lib.hid L3
          have HBB := Lib.hid B3
          have HZ := Lib.hid Z3
          have HS := Lib.hid S3
          have HSH := Lib.hid hsh1
          clear O3 L3 B3 Z3 S3 hsh hsh1 hlen hle
          go_wp2
          rename World => wo
          go_loopw [6] (fun rv wr => ∃ (c g : Nat) (ps : List ByteArray), rv = .slice (some ⟨g, 0, none⟩) ps.length c ∧ Hid (ps.length ≤ 21) ∧ Hid (∀ x ∈ ps, x.size ≤ 100) ∧ Hid (Src wr p) ∧ Hid (wr.ownsRow w2.heap.size 9 1 (.slice (some ⟨g, 0, none⟩) ps.length c) ps.length (ps.map Value.string)) ∧ Hid (wr.ownsRow p 9 1 v xs.length (xs.map Value.string)) ∧ Hid (Below p w wr) ∧ Hid (w2.heap.size ≤ wr.heap.size)) (fun rv _ => 21 - lenE rv)
          case atStart => exact ⟨c, g, ps, rfl, Lib.hid (by omega), HSH, HS, HO, HL, HBB, HZ⟩
          case round =>
            clear HS HO HL HBB HZ HSH hl5
            obtain ⟨c, g, ps, rfl, hlen, hsh, hS, hO, hL, hB, hZ⟩ := hrel
            have hle := hlen.out
            go_wp2_with fail
            refine (l01Next_any p 2 _ hS.out (by omega)).mono ?_
            rintro e_ w4 ⟨b, rfl, b0, b1, S4, g4⟩
            have O4 := own_srcP hO.out g4 hpw2
            have L4 := own_far hL.out g4 (fun k hk e => by have := (hkv k hk).2; injection e with e; omega)
            have B4 := below_own hB.out g4 (Nat.le_of_eq hp.symm) (fun k hk => by injection hk with hk; omega)
            have Z4 : w2.heap.size ≤ w4.heap.size := Nat.le_trans hZ.out g4.size
            have e1 : IntKind.i64.wrap (20 + b) = 20 + b := IntWalk.i64_in _ (by omega)
            clear hO hL hB hZ hS g4
            by_cases hlt2 : (ps.length : Int) < 20 + b
            · have htz : ∀ x ∈ ps ++ [(⟨#[97, 115, 104]⟩ : ByteArray)], x.size ≤ 100 := fun x hx => by
                rcases List.mem_append.1 hx with e | e
                · exact hsh.out x e
                · rw [List.mem_singleton.1 e]; decide
              go_wp2_with (at_builtin; refine wpList_append_own _ rfl _ _ 24 rfl w2.heap.size 9 i0 (.string ⟨#[]⟩) 1 16 Tryz.underlying24 hi hz0 hz1 hz2 rfl (by decide) _ _ _ rfl (O4.alloc _) ⟨w4.heap.size, 0, none⟩ 1 1 [.string ⟨#[97, 115, 104]⟩] rfl rfl ?c1 ?c2 ?c3 ?c4 ?c5 ?_)
              case c1 => exact cell_one_new _ _ _
              case c2 => simp [Value.oneCell']
              case c3 => unfold maxLen; omega
              case c4 => omega
              case c5 => simp; omega
              intro v9 w9 own9 grow9 _
              have HO0 : w9.ownsRow w2.heap.size 9 1 v9 (ps ++ [(⟨#[97, 115, 104]⟩ : ByteArray)]).length ((ps ++ [(⟨#[97, 115, 104]⟩ : ByteArray)]).map Value.string) := by simpa using own9
              obtain ⟨g9, c9, hv9⟩ := own_at HO0 (by simp)
              subst hv9
              have HO := Lib.hid HO0
              have HS := Lib.hid ((S4.below (box1 w4 (.cells #[.string ⟨#[97, 115, 104]⟩] 9))).grownP grow9 (fun z hz => by have := (O4.lt z hz).1; omega))
              have HL := Lib.hid (own_far (own_below L4 (box1 w4 (.cells #[.string ⟨#[97, 115, 104]⟩] 9))) grow9 (fun k hk e => by have := (hkv k hk).1; have := (O4.lt k e).1; omega))
              have HBB := Lib.hid (below_own (B4.trans ((box1 w4 (.cells #[.string ⟨#[97, 115, 104]⟩] 9)).mono (by omega))) grow9 (Nat.le_of_eq hp.symm) (fun k hk => by have := (O4.lt k hk).1; omega))
              have HZ := Lib.hid (show w2.heap.size ≤ w9.heap.size by have := grow9.size; simp at this; omega)
              have HSH := Lib.hid htz
              clear own9 grow9 O4 L4 B4 Z4 S4 HO0 htz
              go_wp2
              go_roundw
              case rel => exact ⟨c9, g9, ps ++ [⟨#[97, 115, 104]⟩], (by simp), Lib.hid (by simp; omega), HSH, HS, HO, HL, HBB, HZ⟩
              case measure => simp [lenE]; omega
            · go_wp2
              go_ret2
              exact ⟨v, g, c, xs, ps, rfl, hxl, hxz, hle, hsh.out, by rw [hp]; exact L4, own_base O4 (by omega), by rw [hp]; exact B4⟩
        · have d1 : (r == 1) = false := by simpa using hr1
          go_wp2
          go_ret2
          exact ⟨v, g, c, xs, ps, rfl, hxl, hxz, by omega, hsh1, by rw [hp]; exact L3, own_base O3 (by omega), by rw [hp]; exact B3⟩
end Go.Proofs.YtpnbbhomkneflaaGreatDoor
