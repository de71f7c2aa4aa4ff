/- One rule marked. -/
import Derived.Test.YtjgcbnngjfchhaaDoorMarkT
import Derived.Test.YtjgcbnngjfchhaaDoorRuleA
namespace Go.Proofs.YtjgcbnngjfchhaaDoor
open Go.ChangeShapes Go.WideShapes Go.ChangeAt Go.RowKit
set_option maxHeartbeats 800000 in
theorem markRule_any (base k n : Nat) (v : Value) (xs : List Int) (r : ByteArray) (w : World) (hown : w.ownsRow base 2 1 v n (xs.map (Value.int .i64))) (hk : 0 < k) (hm : k + n ≤ 1000000000000) :
    Calls Tryd.prog 20 #[.agg #[v, .string r], .int .i64 k] w fun e w' => e = .returned (.int .i64 (k + n : Nat)) ∧ w'.ownsRow base 2 1 v n ((imarks k n).map (Value.int .i64)) ∧ w.grownBy w' v.ownBlock := by
  obtain ⟨A, c, rfl, hx⟩ := own_ints_ hown
  have o1 := own_below hown (one_box w (.cells #[.slice A n c, .string r] 39))
  go_enter Tryd.func20, Tryd.ntmps20
  go_wp2_with fail
  refine (markInts_gen base k n _ xs _ o1 hk hm).mono ?_
  rintro e_ w1 ⟨rfl, o2, hg⟩
  go_wp2
  go_ret
  exact ⟨rfl, o2, grown_trans (grown_below (one_box _ _)) hg⟩
end Go.Proofs.YtjgcbnngjfchhaaDoor
