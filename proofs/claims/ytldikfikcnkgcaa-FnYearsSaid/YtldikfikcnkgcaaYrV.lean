/- UnionOf of the program. -/
import Derived.Test.YtldikfikcnkgcaaSrtR
import Derived.Test.YtldikfikcnkgcaaCatP
import Derived.Test.YtldikfikcnkgcaaYrU
namespace Go.Proofs.Ytldikfikcnkgcaa
open Go.ChangeShapes Go.WideShapes Go.ChangeAt Go.RowKit
theorem un_len (a b : List Sp) : (unList a b).length ≤ 12 := by
  unfold unList
  split
  · rename_i h; exact h.2
  · simp
/-- a slice that has an address -/
def Adr (w : World) (A : Option Addr) : Prop := ∃ b off, A = some ⟨b, off, none⟩ ∧ b < w.heap.size
set_option maxRecDepth 100000 in
set_option maxHeartbeats 1000000 in
theorem UnionOf_impl (A B : Option Addr) (n c m d : Nat) (xs ys : List Sp) (w : World) (hx : Spans w A n c xs) (hy : Spans w B m d ys) (hAB : Adr w A ∧ Adr w B) :
    Calls Try.prog 15 #[.slice A n c, .slice B m d] w fun e w' => ∃ v, e = .returned (.tuple #[v, .int .i64 (unCode xs ys)]) ∧ w'.ownsRow w.heap.size 42 2 v (unList xs ys).length (spanCells (unList xs ys)) ∧ Below w.heap.size w w' := by
  obtain ⟨⟨b1, o1, rfl, hb1⟩, ⟨b2, o2, rfl, hb2⟩⟩ := hAB
  rcases un_cases xs ys with ⟨ha, HF⟩ | ⟨ha, hb, HF⟩ | ⟨ha, hb, hl, HF⟩ | ⟨ha, hb, hl, HF⟩
  · go_enter Try.func15, Try.ntmps15
    go_wp2_with fail
    refine (isb_ (areYears_impl _ n c xs _ hx) ha).mono ?_
    rintro e_ w1 ⟨rfl, h1⟩
    have hc_w1 := bcell h1; have hf_w1 := bfree h1
    go_wp2
    go_ret2
    exact ⟨_, by rw [HF.out.2]; rfl, by rw [HF.out.1]; exact World.ownsRow_nil _ _ _ _, h1⟩
  · go_enter Try.func15, Try.ntmps15
    go_wp2_with fail
    refine (isb_ (areYears_impl _ n c xs _ hx) ha).mono ?_
    rintro e_ w1 ⟨rfl, h1⟩
    have hc_w1 := bcell h1; have hf_w1 := bfree h1
    go_wp2_with fail
    refine (isb_ (areYears_impl _ m d ys _ (hy.below h1)) hb).mono ?_
    rintro e_ w2 ⟨rfl, h2⟩
    have hc_w2 := bcell h2; have hf_w2 := bfree h2
    go_wp2
    go_ret2
    exact ⟨_, by rw [HF.out.2]; rfl, by rw [HF.out.1]; exact World.ownsRow_nil _ _ _ _, next h1 h2⟩
  all_goals
    obtain ⟨_, bx, lx⟩ := canon_of ha
    obtain ⟨_, by_, ly⟩ := canon_of hb
    have hn : n ≤ 12 := by rw [hx.1]; exact lx
    have hm : m ≤ 12 := by rw [hy.1]; exact ly
    have HBD := Lib.hid (show ∀ s ∈ xs ++ ys, -3000 ≤ s.1 ∧ s.1 ≤ 3000 ∧ -3000 ≤ s.2 ∧ s.2 ≤ 3000 from fun s hs => by
      rcases List.mem_append.1 hs with h | h
      · have := bx s h; omega
      · have := by_ s h; omega)
    have HLN := Lib.hid (show (xs ++ ys).length ≤ 24 by rw [List.length_append]; omega)
    have HU := Lib.hid (fun zs h1 h2 => uni_any (ys := zs) ha hb h1 h2)
    obtain ⟨l, hl_⟩ : ∃ l, uniL xs ys = l := ⟨_, rfl⟩
    rw [hl_] at hl HU
    try rw [hl_] at HF
    clear hl_ bx by_ lx ly
    go_enter Try.func15, Try.ntmps15
    go_wp2_with fail
    refine (isb_ (areYears_impl _ n c xs _ hx) ha).mono ?_
    rintro e_ w1 ⟨rfl, h1⟩
    have hc_w1 := bcell h1; have hf_w1 := bfree h1
    go_wp2_with fail
    refine (isb_ (areYears_impl _ m d ys _ (hy.below h1)) hb).mono ?_
    rintro e_ w2 ⟨rfl, h2⟩
    have hc_w2 := bcell h2; have hf_w2 := bfree h2
    have h12 := next h1 h2
    have hz12 := h12.size
    have hbx := boxS w2 (.cells #[.slice (some ⟨b1, o1, none⟩) n c, .slice (some ⟨b2, o2, none⟩) m d] 24)
    have h3x := next h12 hbx
    have hcat := concatP_any w2.heap.size b1 o1 b2 o2 n c m d xs ys (w2.alloc (.cells #[.slice (some ⟨b1, o1, none⟩) n c, .slice (some ⟨b2, o2, none⟩) m d] 24)) (hx.below h3x) (hy.below h3x) hn hm (by simp; omega) (by simp; omega) (by simp) (by simp) (by simp)
    go_wp2_with fail
    refine hcat.mono ?_
    rintro e_ w3 ⟨v3, rfl, o3, k3⟩
    rw [List.length_append] at o3
    obtain ⟨A3, c3, rfl, hcc1, hcc2⟩ := own_formS o3
    have hs3 := own_spans o3 (List.length_append).symm
    have hun := union_any A3 (xs.length + ys.length) c3 (xs ++ ys) w3 HLN.out HBD.out (fun Bs W g1 g2 g3 => sortedP_any A3 (xs.length + ys.length) c3 (xs ++ ys) w3 hs3 HLN.out Bs W g1 g2 g3)
    have h33 := Lib.hid (next h3x k3)
    clear hcat o3 k3 hs3 h3x hbx h12 h1 h2 hx hy ha hb hn hm
    go_wp2_with fail
    refine hun.mono ?_
    rintro e_ w4 ⟨v4, zs, rfl, hp, hs, o4, k4⟩
    rw [HU.out zs hp hs] at o4
    obtain ⟨A4, c4, rfl, hc1, hc2⟩ := own_formS o4
    have HB3 := Lib.hid (next h33.out k4)
    have HO3 := Lib.hid (own_monoS o4 h33.out.size)
    clear hun o4 k4 hp hs h33
  · go_wp2_with fail
    refine (limited_no _ _ _ _ hl hc1 hc2).mono ?_
    rintro e_ w5 ⟨rfl, h5⟩
    have HB4 := Lib.hid (next HB3.out h5)
    clear h5
    go_wp2
    go_ret2
    exact ⟨_, by rw [HF.out.2]; rfl, by rw [HF.out.1]; exact World.ownsRow_nil _ _ _ _, HB4.out⟩
  · go_wp2_with fail
    refine (limited_yes _ _ _ _ hl hc1 hc2).mono ?_
    rintro e_ w5 ⟨rfl, h5⟩
    have HB4 := Lib.hid (next HB3.out h5)
    have HO4 := Lib.hid (own_below HO3.out h5)
    clear h5
    go_wp2
    go_ret2
    exact ⟨_, by rw [HF.out.2]; rfl, by rw [HF.out.1]; exact HO4.out, HB4.out⟩
end Go.Proofs.Ytldikfikcnkgcaa
