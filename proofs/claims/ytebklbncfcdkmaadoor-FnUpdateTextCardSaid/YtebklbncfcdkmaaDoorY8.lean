
/-
  The walks of the functions that draw a log and an update for the laws of texts. No statement is proved here.
-/
import Derived.Test.YtebklbncfcdkmaaDoorLg
import Derived.Test.YtebklbncfcdkmaaDoorOc
namespace Go.Proofs.YtebklbncfcdkmaaDoor
open Go.RowKit

/-- A log that was drawn. -/
def DrawnLog (w : World) (e : Ending) (w' : World) : Prop :=
  ∃ (a : Option Addr) (cap : Nat) (us : List Upd), e = .returned (.slice a us.length cap) ∧ us.length ≤ 13 ∧ us.length ≤ cap ∧ UpdsAt w' a us ∧ Below w.heap.size w w'

set_option maxHeartbeats 1000000 in
theorem drawLogText_calls (a : Option Addr) (n cap : Nat) (w : World) (hc : n ≤ cap) (hm : cap ≤ maxLen) (hb : BytesAt w a n) :
    Calls Tryd.prog 22 #[.slice a n cap] w (DrawnLog w) := by
  go_enter Tryd.func22, Tryd.ntmps22
  go_wp2_with fail
  refine (l6Open_st a n cap (St.start w) hc hm hb).mono ?_
  rintro e w1 ⟨b, rfl, s1⟩
  go_wp2_with fail
  refine (l91Log_st b 0 s1 (by omega)).mono ?_
  rintro e w2 ⟨v, us, rfl, h13, _, s2⟩
  obtain ⟨a', cap', rfl, hx⟩ := own_cells s2.own
  have FIN := Lib.hid (show DrawnLog w (.returned (.slice a' us.length cap')) w2 from ⟨a', cap', us, rfl, h13, own_cap s2.own, hx, s2.below⟩)
  clear s1 s2 hx h13
  go_wp2_with fail
  go_ret
  exact FIN.out
end Go.Proofs.YtebklbncfcdkmaaDoor
