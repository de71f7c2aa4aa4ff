/- impl.spell: what it computes. -/
import Derived.Test.YtnjeloggpbgloaaDoorSpellC
namespace Go.Proofs.YtnjeloggpbgloaaDoor
open Go.ChangeShapes Go.WideShapes Go.ChangeAt Go.RowKit

set_option maxRecDepth 100000 in
set_option maxHeartbeats 2000000 in
theorem spell_any (A : Option Addr) (n c : Nat) (xs : List ByteArray) (s0 : ByteArray) (w : World) (hx : Strs w A n c xs) (hs : s0.size ≤ 1048576) (ha : isAlpha xs = true) :
    Calls Tryd.prog 26 #[.slice A n c, .string s0] w fun e w' => ∃ v, e = .returned (.tuple #[v, .bool (spellOk xs s0)]) ∧ w'.ownsRow w.heap.size 2 1 v (spellList xs s0).length ((spellList xs s0).map (Value.int .i64)) ∧ Below w.heap.size w w' := by
  have hcm := hx.2.1.cap
  have hnc := hx.2.1.le
  have HX := Lib.hid hx.1
  have HA := Lib.hid ha
  unfold maxLen at hcm
  clear ha
  obtain ⟨i0, hi, hz0, hz1, hz2⟩ := info_parts infoInt
  go_enter Tryd.func26, Tryd.ntmps26
  go_wp2
  go_loopw [1, 6] (fun t rv wr => ∃ (f : Nat) (s : ByteArray) (P : List Int), t = .string s ∧ s.size ≤ s0.size ∧ Hid (Spelt xs s0 f s P) ∧ P.length + s.size ≤ s0.size ∧ Hid (wr.ownsRow w.heap.size 2 1 rv P.length (P.map (Value.int .i64))) ∧ Below w.heap.size w wr) (fun t _ _ => match t with | .string s => s.size | _ => 0)
  case atStart => exact ⟨s0.size, s0, [], rfl, Nat.le_refl _, spelt_start xs s0, by simp, World.ownsRow_nil _ _ _ _, Below.refl _ _⟩
  case round =>
    obtain ⟨f, s, P, rfl, hss, hsp, hPl, hown, hb⟩ := hrel
    have hz3 := hb.size
    by_cases h0 : 0 < s.size
    · have hsm : s.size ≤ maxLen := by unfold maxLen; omega
      have hne := text_some h0
      go_wp2
      go_loopw [7, 14] (fun q i wv => ∃ (k : Nat) (b : Int), k ≤ n ∧ i = .int .i64 k ∧ q = .int .i64 b ∧ -1 ≤ b ∧ b < k ∧ Hid (nx xs s k = b) ∧ Below wr.heap.size wr wv) (fun _ i _ => n - (intOf i).toNat)
      case atStart => exact ⟨0, -1, Nat.zero_le _, rfl, rfl, by omega, by omega, rfl, Below.refl _ _⟩
      case round =>
        obtain ⟨k, bt, hk, rfl, rfl, b0, b1, hn, hb2⟩ := hrel
        have hbv := next hb hb2
        have hz3 := hbv.size
        by_cases hlt : k < n
        · obtain ⟨b, off, rfl, hbl⟩ := hx.at_ k hlt
          obtain ⟨x, hxk, c0, hsz⟩ := hx.el hbv hbl k hlt
          cases hp : pre x s
          · have HN := Lib.hid ((nx_no hxk.out hp).trans hn.out)
            clear hn
            go_wp2_with fail
            refine (isb (HasPrefix_any s x _ hsm hsz) hp).mono ?_
            rintro e_ w2 ⟨rfl, h2⟩
            have hc_w2 := bcell h2; have hf_w2 := bfree h2
            go_wp2
            go_roundw
            case rel => exact ⟨k + 1, bt, by omega, by go_num, rfl, b0, by omega, HN, next hb2 h2⟩
            case measure => simp [intOf]; omega
          · by_cases hbt : bt < 0
            · have HN := Lib.hid (nx_first hxk.out hp (by rw [hn.out]; exact hbt))
              clear hn
              go_wp2_with fail
              refine (isb (HasPrefix_any s x _ hsm hsz) hp).mono ?_
              rintro e_ w2 ⟨rfl, h2⟩
              have hc_w2 := bcell h2; have hf_w2 := bfree h2
              go_wp2
              go_roundw
              case rel => exact ⟨k + 1, (k : Int), by omega, by go_num, rfl, by omega, by omega, HN, next hb2 h2⟩
              case measure => simp [intOf]; omega
            · obtain ⟨q, rfl⟩ : ∃ q : Nat, bt = q := ⟨bt.toNat, by omega⟩
              have hqn : q < n := by omega
              obtain ⟨y, hyq, c1, hyz⟩ := hx.el hbv hbl q hqn
              have hd1 : decide ((q : Int) < 0) = false := decide_eq_false hbt
              have hyz2 := hyz
              have hsz2 := hsz
              unfold maxLen at hyz2 hsz2
              have HC := nx_cmp hxk.out hp hn.out hyq.out
              by_cases hyx : y.size < x.size
              · rw [if_pos hyx] at HC
                have HN := Lib.hid HC
                have hyx' : (y.size : Int) < (x.size : Int) := by omega
                clear hn HC
                go_wp2_with fail
                refine (isb (HasPrefix_any s x _ hsm hsz) hp).mono ?_
                rintro e_ w2 ⟨rfl, h2⟩
                have hc_w2 := bcell h2; have hf_w2 := bfree h2
                have c1' := cell_keep h2 c1
                go_wp2
                go_roundw
                case rel => exact ⟨k + 1, (k : Int), by omega, by go_num, rfl, by omega, by omega, HN, next hb2 h2⟩
                case measure => simp [intOf]; omega
              · rw [if_neg hyx] at HC
                have HN := Lib.hid HC
                have hyx' : ¬ (y.size : Int) < (x.size : Int) := by omega
                clear hn HC
                go_wp2_with fail
                refine (isb (HasPrefix_any s x _ hsm hsz) hp).mono ?_
                rintro e_ w2 ⟨rfl, h2⟩
                have hc_w2 := bcell h2; have hf_w2 := bfree h2
                have c1' := cell_keep h2 c1
                go_wp2
                go_roundw
                case rel => exact ⟨k + 1, (q : Int), by omega, by go_num, rfl, by omega, by omega, HN, next hb2 h2⟩
                case measure => simp [intOf]; omega
        · have hnk : nx xs s n = bt := by have := hn.out; rwa [show k = n by omega] at this
          by_cases hneg : bt < 0
          · have hsn := spelt_none hsp.out h0 (by rw [← HX.out, hnk]; exact hneg)
            have HF := Lib.hid (show spellOk xs s0 = false ∧ spellList xs s0 = [] by unfold spellOk spellList; rw [hsn]; exact ⟨rfl, rfl⟩)
            clear hsn hnk hn hsp
            go_wp2
            go_ret2
            exact ⟨_, by rw [HF.out.1]; rfl, by rw [HF.out.2]; exact World.ownsRow_nil _ _ _ _, hbv⟩
          · obtain ⟨q, rfl⟩ : ∃ q : Nat, bt = q := ⟨bt.toNat, by omega⟩
            obtain ⟨x, hxq, hxp⟩ := nx_pre (by rw [← HX.out]; exact Nat.le_refl _) hnk
            have hx3 := alpha_size HA.out hxq
            have hxs := (pre_eq hxp).1
            have HS := Lib.hid (spelt_step hsp.out h0 (by rw [← HX.out]; exact hnk) hxq hx3.1 hxs)
            have hqn : q < n := by omega
            obtain ⟨b, off, rfl, hbl⟩ := hx.at_ q hqn
            obtain ⟨x', hxk, c0, hsz⟩ := hx.el hbv hbl q hqn
            have exx : x' = x := by have := hxk.out; rw [hxq] at this; exact (Option.some.inj this).symm
            subst exx
            clear hsp hxp hnk hn
            have hown1 := own_below hown.out hb2
            go_wp2_with (at_builtin; refine wpList_append_own _ rfl _ _ 30 rfl w.heap.size 2 i0 (.int .i64 0) 1 8 Tryd.underlying30 hi hz0 hz1 hz2 rfl (by decide) _ _ _ rfl (hown1.alloc _) ⟨wr.heap.size, 0, none⟩ 1 1 [.int .i64 q] rfl rfl ?c1 ?c2 ?c3 ?c4 ?c5 ?_)
            case c2 => first | exact cell_one_new _ _ _ | simp [Value.oneCell']
            case c3 => unfold maxLen; omega
            case c4 => omega
            case c5 => (try simp); (try omega)
            intro v4 w4 hown4 hgrow hrest
            have HO : Hid (w4.ownsRow w.heap.size 2 1 v4 (P ++ [(q : Int)]).length ((P ++ [(q : Int)]).map (Value.int .i64))) := by rw [List.length_append, List.map_append]; exact hown4
            have HB : Hid (Below w.heap.size w w4) := (hbv.alloc hz3 _).grown hgrow (by simp; omega) (fun z hz => (hown1.lt z hz).1)
            have c2 := (HB.out.cell (p := ⟨b, off + q, none⟩) hbl).trans ((hbv.cell (p := ⟨b, off + q, none⟩) hbl).symm.trans c0)
            clear hown4 hgrow hown1 hrest
            have hsz2 : (s.extract x'.size s.size).size = s.size - x'.size := by rw [ByteArray.size_extract]; omega
            go_wp2
            go_roundw
            case rel => exact ⟨f - 1, s.extract x'.size s.size, P ++ [(q : Int)], rfl, by omega, HS.out, by rw [List.length_append, hsz2]; simp; omega, HO, HB.out⟩
            case measure => simp only [hsz2]; omega
    · have he : s = ⟨#[]⟩ := by
        apply ByteArray.ext
        have : s.data.size = 0 := by have : s.size = s.data.size := rfl; omega
        exact Array.eq_empty_of_size_eq_zero this
      have hE := spelt_end hsp.out (by omega)
      have HF := Lib.hid (show spellOk xs s0 = true ∧ spellList xs s0 = P by unfold spellOk spellList; rw [hE]; exact ⟨rfl, rfl⟩)
      clear hE hsp
      subst he
      go_wp2
      go_ret2
      exact ⟨_, by rw [HF.out.1]; rfl, by rw [HF.out.2]; exact hown.out, hb⟩

end Go.Proofs.YtnjeloggpbgloaaDoor
