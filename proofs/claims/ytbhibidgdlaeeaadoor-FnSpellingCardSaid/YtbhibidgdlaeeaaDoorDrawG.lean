/- Draws of alphabets. -/
import Derived.Test.YtbhibidgdlaeeaaDoorDrawP
import Derived.Test.YtbhibidgdlaeeaaDoorGrown
import Derived.Maps.AppendAt
import Derived.Deep.RegionLaw
namespace Go.Proofs.YtbhibidgdlaeeaaDoor
open Go.ChangeShapes Go.WideShapes Go.ChangeAt Go.RowKit

theorem addr_add (g o j : Nat) : (⟨g, o, none⟩ : Addr).add j = ⟨g, o + j, none⟩ := by simp [Addr.add]
section
variable {P : Program} {w : World}
/-- an append onto a row of the call's own, where a region draws its order -/
theorem step_own_at {ops : Array Oper} {o : Oper} {a : Act} {K : Act → World → Prop} {Q : Exit → Act → World → Prop} {E : Prop} (hgd : o.guard = none) (s x : Operand) (t : TypeId)
    (ho : o.op = .call { callee := .builtin .append, args := #[s, x], argTypes := #[t, t] })
    (base : Nat) (e : TypeId) (i : TypeInfo) (z : Value) (size bytes : Nat) (ht : P.underlying t = some (.slice e)) (hi : P.info? e = some i) (hz : i.zero = some z)
    (hsize : i.size = size) (hby : i.bytes = bytes) (hzs : z.cells.size = size) (hsz : 0 < size)
    (v : Value) (n : Nat) (xs : List Value) (hs : a.eval s = v) (hown : w.ownsRow base e size v n xs)
    (ad : Addr) (m c : Nat) (news : List Value) (hx : a.eval x = .slice (some ad) m c) (hl : news.length = m * size) (hnews : ∀ j u, news[j]? = some u → w.cell? (ad.add j) = some u) (h1 : ∀ u ∈ news, u.oneCell' = true)
    (h63 : n + m ≤ maxLen) (hbytes : (n + m) * bytes ≤ 140737488355328) (hbase : base ≤ w.heap.size)
    (h : ∀ v' w', w'.ownsRow base e size v' (n + m) (xs ++ news) → w.grownBy w' v.ownBlock → K (a.put o.dst v') w') :
    if Region.wanted o (yielded ops a.tmps) = true then Oper.wp P o a w K Q else E := by
  have hw : Region.wanted o (yielded ops a.tmps) = true := by unfold Region.wanted; rw [hgd]
  rw [if_pos hw]
  obtain ⟨v', w', hr, h2, h3, _, _⟩ := run_append_own_at (P := P) w base t o.type e i z size bytes ht hi hz hsize hby hzs hsz v n xs hown ad m c news hl hnews h1 h63 hbytes hbase
  unfold Oper.wp execOp
  simp only [ho, resolve, invoke, builtin, Sem.run_bind, Sem.run_pure, Result.andThen_ok, List.map_toArray, List.map_cons, List.map_nil, hs, hx, hr]
  exact h v' w' h2 h3
end
/-- what a draw of an alphabet returns -/
def AlphaPost (B : Nat) (p : Nat) (w : World) (e : Ending) (w' : World) : Prop := ∃ (v : Value) (xs : List ByteArray), e = .returned v ∧ xs.length ≤ B ∧ (∀ x ∈ xs, x.size ≤ 4) ∧ w'.ownsRow w.heap.size 9 1 v xs.length (xs.map Value.string) ∧ Src w' p ∧ w.grownBy w' (some p)
def AlphaPost1 (B : Nat) (p : Nat) (w : World) (e : Ending) (w' : World) : Prop := ∃ (v : Value) (xs : List ByteArray), e = .returned v ∧ 0 < xs.length ∧ xs.length ≤ B ∧ (∀ x ∈ xs, x.size ≤ 4) ∧ w'.ownsRow w.heap.size 9 1 v xs.length (xs.map Value.string) ∧ Src w' p ∧ w.grownBy w' (some p)
def letters : List ByteArray := [⟨#[97]⟩, ⟨#[98]⟩, ⟨#[101]⟩, ⟨#[102]⟩, ⟨#[104]⟩, ⟨#[105]⟩, ⟨#[107]⟩, ⟨#[108]⟩, ⟨#[109]⟩, ⟨#[110]⟩, ⟨#[111]⟩, ⟨#[114]⟩, ⟨#[115]⟩, ⟨#[116]⟩, ⟨#[119]⟩, ⟨#[121]⟩, ⟨#[100]⟩, ⟨#[103]⟩, ⟨#[99]⟩, ⟨#[115, 104]⟩, ⟨#[115, 116]⟩, ⟨#[99, 104]⟩, ⟨#[97, 101]⟩, ⟨#[107, 105]⟩, ⟨#[102, 111, 114]⟩, ⟨#[116, 111, 110]⟩]
set_option maxRecDepth 100000 in
set_option maxHeartbeats 4000000 in
theorem l03Good_any (p : Nat) (w : World) (h : Src w p) : Calls Tryd.prog 140 #[.pointer (some ⟨p, 0, none⟩)] w (AlphaPost1 26 p w) := by
  have hp := h.lt
  obtain ⟨i0, hi, hz0, hz1, hz2⟩ := info_parts infoStr
  go_enter Tryd.func140, Tryd.ntmps140
  go_wp2
  have HB := box1 w (.cells #[] 9)
  have HB2 := box1 (w.alloc (.cells #[] 9)) (.cells (letters.map Value.string).toArray 9)
  have P0 := parts_alloc (w.alloc (.cells #[] 9)) letters 9 4 (by decide)
  replace P0 : Parts ((w.alloc (.cells #[] 9)).alloc (.cells (letters.map Value.string).toArray 9)) (w.heap.size + 1) 26 4 := by simpa [letters] using P0
  have O0 := own_below (World.ownsRow_lit (base := w.heap.size) (e := 9) (size := 1) w #[] 0 (Nat.le_refl _) (by unfold maxLen; omega) rfl) HB2
  have S0 := (h.below HB).below HB2
  have G0 := grown_trans (grown_below HB (row := some p)) (grown_below HB2)
  have HI := Lib.hid (And.intro S0 P0)
  have HO0 := Lib.hid (And.intro O0 (show (Value.slice (some ⟨w.heap.size, 0, none⟩) 0 0).ownBlock ≠ some (w.heap.size + 1) by simp [Value.ownBlock]))
  have HG0 := Lib.hid (And.intro G0 (show w.heap.size + 1 < ((w.alloc (.cells #[] 9)).alloc (.cells (letters.map Value.string).toArray 9)).heap.size by simp))
  clear S0 P0 O0 G0 HB HB2 h
  go_loopw [3, 5] (fun rv i wr => ∃ (k : Nat) (xs : List ByteArray), k ≤ 26 ∧ i = .int .i64 k ∧ Hid (xs.length ≤ k ∧ ∀ x ∈ xs, x.size ≤ 4) ∧ Hid (Src wr p ∧ Parts wr (w.heap.size + 1) 26 4) ∧ Hid (wr.ownsRow w.heap.size 9 1 rv xs.length (xs.map Value.string) ∧ rv.ownBlock ≠ some (w.heap.size + 1)) ∧ Hid (w.grownBy wr (some p) ∧ w.heap.size + 1 < wr.heap.size)) (fun _ i _ => 26 - (intOf i).toNat)
  case atStart => exact ⟨0, [], by omega, rfl, Lib.hid ⟨by simp, by simp⟩, HI, HO0, HG0⟩
  case round =>
    clear HI HO0 HG0
    obtain ⟨k, xs, hk, rfl, hlen, hS, hO, hG⟩ := hrel
    by_cases hlt : k < 26
    · have hj0 : (k : Int) < 26 := by omega
      go_wp2_with fail
      refine (l01Next_any p 8 _ hS.out.1 (by omega)).mono ?_
      rintro e_ w2 ⟨r, rfl, r0, r1, S2, g2⟩
      have P2 := hS.out.2.grown g2 (by omega)
      have O2 := own_srcP hO.out.1 g2 hp
      have hob := hO.out.2
      have G2 := Lib.hid (And.intro (grown_trans hG.out.1 g2) (show w.heap.size + 1 < w2.heap.size from Nat.lt_of_lt_of_le hG.out.2 g2.size))
      have hle := hlen.out
      clear hO hG hS g2
      by_cases hr : 0 < r
      · obtain ⟨x, hx, hx4⟩ := P2 k hlt
        have HP2 := Lib.hid P2
        clear P2
        go_wp2_with (at_builtin; refine wpList_append_own_at _ rfl _ _ 67 rfl w.heap.size 9 i0 (.string ⟨#[]⟩) 1 16 Tryd.underlying67 hi hz0 hz1 hz2 rfl (by decide) _ _ _ rfl (O2.alloc _) ⟨w2.heap.size, 0, none⟩ 1 1 [.string x] rfl rfl ?c1 ?c2 ?c3 ?c4 ?c5 ?_)
        case c1 => exact cell_one_new _ _ _
        case c2 => simp [Value.oneCell']
        case c3 => unfold maxLen; omega
        case c4 => omega
        case c5 => have := G2.out.2; simp; omega
        intro v4 w4 own4 grow4 _ hlie
        have hz4 := G2.out.2
        have HO : Hid (w4.ownsRow w.heap.size 9 1 v4 (xs ++ [x]).length ((xs ++ [x]).map Value.string) ∧ v4.ownBlock ≠ some (w.heap.size + 1)) := Lib.hid ⟨by simpa using own4, by
          rcases hlie with e | e
          · rw [e]; exact hob
          · rw [e]; simp; omega⟩
        have HS := Lib.hid (And.intro ((S2.below (box1 _ _)).grownP grow4 (fun z hz => by have := (O2.lt z hz).1; omega)) (show Parts w4 (w.heap.size + 1) 26 4 from fun j hj => by
          obtain ⟨y, hy, hy4⟩ := (HP2.out.below (box1 w2 (.cells #[.string x] 9))) j hj
          exact ⟨y, grown_cell grow4 hy (by simpa using hob), hy4⟩))
        have HG := Lib.hid (And.intro (grown_own (grown_trans G2.out.1 (grown_below (box1 w2 (.cells #[.string x] 9)))) grow4 (fun z hz => (O2.lt z hz).1)) (show w.heap.size + 1 < w4.heap.size by have := grow4.size; simp at this; omega))
        have HL := Lib.hid (show (xs ++ [x]).length ≤ k + 1 ∧ ∀ y ∈ xs ++ [x], y.size ≤ 4 from ⟨by simp; omega, fun y hy => by
          rcases List.mem_append.1 hy with h | h
          · exact hle.2 y h
          · rw [List.mem_singleton.1 h]; exact hx4⟩)
        clear own4 grow4 O2 S2 G2 hlie HP2
        go_wp2
        go_roundw
        case rel => exact ⟨k + 1, xs ++ [x], by omega, by go_num, HL, HS, HO, HG⟩
        case measure => simp [intOf]; omega
      · have hr2 : ¬ (0 : Int) < r := hr
        have HL := Lib.hid (show xs.length ≤ k + 1 ∧ ∀ y ∈ xs, y.size ≤ 4 from ⟨by omega, hle.2⟩)
        have HS := Lib.hid (And.intro S2 P2)
        have HO := Lib.hid (And.intro O2 hob)
        clear S2 P2 O2
        go_wp2
        go_roundw
        case rel => exact ⟨k + 1, xs, by omega, by go_num, HL, HS, HO, G2⟩
        case measure => simp [intOf]; omega
    · obtain rfl : k = 26 := by omega
      have hle := hlen.out
      have O2 := hO.out.1
      have S2 := hS.out.1
      have G2 := hG.out
      obtain ⟨A, c, rfl, hx⟩ := own_strs O2 (fun x hx => by have := hle.2 x hx; unfold maxLen; omega)
      clear hO hS hG hlen
      by_cases h0 : 0 < xs.length
      · have hq : ((xs.length : Int) == 0) = false := by rw [beq_eq_false_iff_ne]; omega
        go_wp2_with fail
        refine (l01Next_any p xs.length _ S2 (by omega)).mono ?_
        rintro e_ w3 ⟨r, rfl, r0, r1, S3, g3⟩
        obtain ⟨q, rfl⟩ : ∃ q : Nat, r = q := ⟨r.toNat, by omega⟩
        have x3 := own_strs (own_srcP O2 g3 hp) (fun x hx => by have := hle.2 x hx; unfold maxLen; omega)
        obtain ⟨A', c', hv', x3⟩ := x3
        injection hv' with e1 _ e3
        subst e1; subst e3
        obtain ⟨g, off, rfl, hg⟩ := x3.at_ 0 h0
        have hcell : ∀ j x, xs[j]? = some x → w3.cell? ⟨g, off + j, none⟩ = some (.string x) := fun j x hj => by
          have hjl : j < xs.length := (List.getElem?_eq_some_iff.1 hj).1
          obtain ⟨y, hy, c0, _⟩ := x3.el (Below.refl _ _) hg j hjl
          rw [hj] at hy
          injection hy.out with hy
          rw [hy]
          exact c0
        have hcm := x3.2.1.cap
        have hnc := x3.2.1.le
        unfold maxLen at hcm
        have hql : q ≤ xs.length := by omega
        have hq3 : q < xs.length := by omega
        have hcq : ¬ c = q := by omega
        have hqc : (q : Int) ≤ (c : Int) := by omega
        have oneA : ∀ u ∈ (xs.drop q).map Value.string, u.oneCell' = true := fun u hu => by obtain ⟨x, _, rfl⟩ := List.mem_map.1 hu; rfl
        have oneB : ∀ u ∈ (xs.take q).map Value.string, u.oneCell' = true := fun u hu => by obtain ⟨x, _, rfl⟩ := List.mem_map.1 hu; rfl
        have hgne : w3.heap.size ≠ g := by omega
        have hql2 : (q : Int) ≤ xs.length := by omega
        have ownA : (w3.drew.alloc (.cells #[] 9)).ownsRow w3.heap.size 9 1 (.slice (some ⟨w3.heap.size, 0, none⟩) 0 0) 0 [] := World.ownsRow_lit (base := w3.heap.size) (e := 9) (size := 1) w3.drew #[] 0 (Nat.le_refl _) (by unfold maxLen; omega) rfl
        have newsA : ∀ j u, ((xs.drop q).map Value.string)[j]? = some u → (w3.drew.alloc (.cells #[] 9)).cell? ((⟨g, off + q, none⟩ : Addr).add j) = some u := fun j u hu => by
          rw [List.getElem?_map, List.getElem?_drop] at hu
          obtain ⟨x, hx, rfl⟩ := Option.map_eq_some_iff.1 hu
          have h := hcell _ _ hx
          rw [← Nat.add_assoc] at h
          exact cell_keep (box1 w3.drew (.cells #[] 9)) (show w3.drew.cell? ((⟨g, off + q, none⟩ : Addr).add j) = some (.string x) from by rw [addr_add]; exact h)
        go_wp2_with fail
        (go_region_law (first
          | (refine step_own_at rfl _ _ 67 rfl w3.heap.size 9 i0 (.string ⟨#[]⟩) 1 16 Tryd.underlying67 hi hz0 hz1 hz2 rfl (by decide) _ _ _ rfl ownA _ _ _ ((xs.drop q).map Value.string) rfl (by simp) newsA oneA (by unfold maxLen; omega) (by omega) (by simp) ?_; intro v5 w5 own5 grow5; have newsB := (show ∀ j u, ((xs.take q).map Value.string)[j]? = some u → w5.cell? ((⟨g, off, none⟩ : Addr).add j) = some u from fun j u hu => by
              rw [List.getElem?_map, List.getElem?_take] at hu
              split at hu
              · obtain ⟨x, hx, rfl⟩ := Option.map_eq_some_iff.1 hu
                rw [addr_add]
                exact grown_cell grow5 (cell_keep (box1 w3.drew (.cells #[] 9)) (show w3.drew.cell? ⟨g, off + j, none⟩ = some (.string x) from hcell _ _ hx)) (fun e => hgne (Option.some.inj e))
              · cases hu))
          | (refine step_own_at rfl _ _ 67 rfl w3.heap.size 9 i0 (.string ⟨#[]⟩) 1 16 Tryd.underlying67 hi hz0 hz1 hz2 rfl (by decide) _ _ _ rfl own5 _ _ _ ((xs.take q).map Value.string) rfl (by simp; omega) newsB oneB (by unfold maxLen; omega) (by omega) (by have := grow5.size; simp at this; omega) ?_; intro v6 w6 own6 grow6)))
        have hz3 := S3.lt
        have S5 := ((S3.below (Below.refl _ _).drew).below (box1 w3.drew (.cells #[] 9))).grownP grow5 (fun k hk => by have e : w3.heap.size = k := Option.some.inj hk; omega)
        have S6 := S5.grownP grow6 (fun k hk => by have := (own5.lt k hk).1; omega)
        have G3 := grown_trans (grown_trans G2.1 g3) (grown_trans (grown_below (Below.refl _ _).drew) (grown_below (box1 w3.drew (.cells #[] 9))))
        have hzw : w.heap.size ≤ w3.heap.size := (grown_trans G2.1 g3).size
        have G6 := grown_own (grown_own G3 grow5 (fun k hk => by have e : w3.heap.size = k := Option.some.inj hk; omega)) grow6 (fun k hk => by have := (own5.lt k hk).1; omega)
        have el : 0 + (xs.length - q) + q = (xs.drop q ++ xs.take q).length := by simp; omega
        rw [el] at own6
        have HO := Lib.hid (show w6.ownsRow w.heap.size 9 1 v6 (xs.drop q ++ xs.take q).length ((xs.drop q ++ xs.take q).map Value.string) from own_base (by simpa using own6) hzw)
        have hlq : (xs.drop q ++ xs.take q).length = xs.length := by simp; omega
        go_wp2
        go_ret
        exact ⟨v6, xs.drop q ++ xs.take q, rfl, by omega, by omega, fun x hx => by
          rcases List.mem_append.1 hx with h | h
          · exact hle.2 x (List.mem_of_mem_drop h)
          · exact hle.2 x (List.mem_of_mem_take h), HO.out, S6, G6⟩
      · have hl0 : xs.length = 0 := by omega
        have hq : ((xs.length : Int) == 0) = true := by rw [hl0]; rfl
        go_wp2
        go_ret
        refine ⟨_, [⟨#[97]⟩], rfl, by simp, by simp, by decide, ?_, S2.below (box1 _ _), grown_trans G2.1 (grown_below (box1 _ _))⟩
        exact own_base (World.ownsRow_lit (base := wr.heap.size) (e := 9) (size := 1) wr #[.string ⟨#[97]⟩] 1 (Nat.le_refl _) (by unfold maxLen; omega) rfl) (by have := G2.2; omega)
end Go.Proofs.YtbhibidgdlaeeaaDoor
