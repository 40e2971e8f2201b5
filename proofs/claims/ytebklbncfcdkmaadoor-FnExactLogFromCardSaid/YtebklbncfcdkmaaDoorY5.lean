
/-
  A chain as a text: the reference's. Conditions: the chain's sizes.
-/
import Derived.Test.YtebklbncfcdkmaaDoorY4
import Derived.Test.YtebklbncfcdkmaaDoorMl
import Derived.Test.YtebklbncfcdkmaaDoorC4
namespace Go.Proofs.YtebklbncfcdkmaaDoor
open Go.RowKit

def nodeT (n : Nd) : List UInt8 := ((((Lib.decDigits n.id.toNat ++ [32]) ++ logT n.us) ++ [32]) ++ Lib.decDigits n.done.toNat) ++ [10]
def headT (view : Int) : List UInt8 := ([118, 105, 101, 119, 32] ++ Lib.decDigits view.toNat) ++ [10]
def linesT (view : Int) (ns : List Nd) : Nat → List UInt8
  | 0 => headT view
  | k + 1 => linesT view ns k ++ nodeT (nd ns k)
noncomputable def chainText (view : Int) (ns : List Nd) : List UInt8 := if chainOk view ns = true then linesT view ns ns.length else []
theorem headT_length {view : Int} (h : view ≤ 999) : (headT view).length ≤ 2000 := by
  have := dec_length view.toNat
  simp [headT]; omega
theorem nodeT_length {n : Nd} (h : nodeOk n.id n.us n.done = true) : (nodeT n).length ≤ 2000 := by
  obtain ⟨h1, h2, h3⟩ := nodeOk_parts h
  have l1 := dec_length n.id.toNat
  have l2 := logT_length n.us h2
  have l3 := dec_length n.done.toNat
  have := (logOk_all h2).1
  simp [nodeT]; omega
theorem linesT_length {view : Int} {ns : List Nd} (h : chainOk view ns = true) : ∀ k, k ≤ ns.length → (linesT view ns k).length ≤ 2000 + 2000 * k
  | 0, _ => by have := headT_length (chainOk_iff.1 h).1.2; simpa [linesT] using this
  | k + 1, hk => by
    have h1 := linesT_length h k (by omega)
    have h2 := nodeT_length ((chainOk_iff.1 h).2.2.1 k (by omega)).1
    simp [linesT]; omega

/-- x and y make z. -/
theorem cat_to {P : Program} {x y z : List UInt8} (hz : x ++ y = z) (h : z.length ≤ 1000000) (W : World) : (Op.stringOp .add ⟨x.toArray⟩ ⟨y.toArray⟩).run P W = .ok (.string ⟨z.toArray⟩) W := by
  have : x.length + y.length = z.length := by rw [← hz]; simp
  exact hz ▸ cat_run x y (by omega) W

set_option maxRecDepth 100000 in
set_option maxHeartbeats 4000000 in
theorem specChainText_calls (view : Int) (a : Option Addr) (cap : Nat) (ns : List Nd) (w : World) (hm : ns.length ≤ 1099511627776) (hc : ns.length ≤ cap) (hs : Short ns 1099511627776) (hx : NodesAt w a ns) :
    Calls Tryd.prog 25 #[.agg #[.int .i64 view, .slice a ns.length cap]] w fun e w' => e = .returned (.string ⟨(chainText view ns).toArray⟩) ∧ Below w.heap.size w w' := by
  have s0 := (St.start w).alloc (.cells #[.int .i64 view, .slice a ns.length cap] 40)
  go_enter Tryd.func25, Tryd.ntmps25
  go_wp2_with fail
  refine (specChainValid_calls view a cap ns _ hm hc hs (hx.below s0.below)).mono ?_
  rintro e w1 ⟨rfl, hb⟩
  have s1 := s0.call hb
  clear s0 hb
  obtain ⟨c1, _⟩ := s1.cells
  cases h : chainOk view ns with
  | false =>
    have FIN : Hid (chainText view ns = []) := Lib.hid (by simp [chainText, h])
    go_wp2_with fail
    exact bodyPost_ret (v := .string ⟨#[]⟩) (by simp [results, Tryd.results25, go_sem]) rfl ⟨by rw [FIN.out], s1.below⟩
  | true =>
    have FIN : Hid (chainText view ns = linesT view ns ns.length) := Lib.hid (by simp [chainText, h])
    have LL := Lib.hid (linesT_length h)
    have HP := Lib.hid (chainOk_iff.1 h)
    have hv1 := HP.out.1.1
    have hv2 := HP.out.1.2
    have hhl := headT_length hv2
    have hn1 : 1 ≤ ns.length := HP.out.2.1.1
    have hn5 : ns.length ≤ 5 := HP.out.2.1.2
    obtain ⟨v, rfl⟩ : ∃ v : Nat, view = v := ⟨view.toNat, by omega⟩
    have hv : v < 4611686018427387904 := by omega
    obtain ⟨t1, ht1⟩ : ∃ t, [118, 105, 101, 119, 32] ++ Lib.decDigits v = t := ⟨_, rfl⟩
    have ht2 : t1 ++ [10] = headT v := by rw [← ht1]; simp [headT]
    have l1 : t1.length ≤ (headT v).length := by rw [← ht2]; simp
    obtain ⟨H, hH⟩ : ∃ t, headT v = t := ⟨_, rfl⟩
    have hh0 : linesT v ns 0 = H := by rw [← hH]; rfl
    rw [hH] at ht2 l1 hhl
    have cat1 := cat_to (P := Tryd.prog) ht1 (by omega)
    have cat2 := cat_to (P := Tryd.prog) ht2 (by omega)
    have k0 := (c1 0).trans (show _ = some (Value.int .i64 v) from rfl)
    have k1 := (c1 1).trans (show _ = some (Value.slice a ns.length cap) from rfl)
    have HH0 := Lib.hid hh0
    clear h c1 hh0 hH ht1 ht2 hv1 hv2 hhl l1
    go_wp2_with fail
    refine (l6Dec_calls v hv _).mono ?_
    rintro e w2 ⟨rfl, hb2⟩
    have s2 := s1.call hb2
    clear hb2 k0 k1 s1
    go_wp2_with fail
    clear cat1 cat2
    go_loopw [3, 4] (fun t i wr => ∃ k : Nat, k ≤ ns.length ∧ i = .int .i64 k ∧ t = .string ⟨(linesT v ns k).toArray⟩ ∧ St w wr [box w.heap.size #[.int .i64 v, .slice a ns.length cap] 40]) (fun _ i _ => ns.length - (intOf i).toNat)
    case atStart => exact ⟨0, Nat.zero_le _, rfl, by rw [HH0.out], s2⟩
    case round =>
      clear s2
      obtain ⟨k, hk, rfl, rfl, s3⟩ := hrel
      have hjl := LL.out k hk
      obtain ⟨x3, _⟩ := s3.cells
      have k1 := (x3 1).trans (show _ = some (Value.slice a ns.length cap) from rfl)
      by_cases hlt : k < ns.length
      · obtain ⟨b, off, rfl, c0, c1, c2⟩ := (hx.below s3.below).cells k hlt
        have hjs := LL.out (k + 1) (by omega)
        have SK := (HP.out.2.2.1 k hlt).1
        have HU' := Lib.hid (fun W (h : Below w.heap.size w W) => ((hx.2.below h).at hlt).1)
        have hnx : linesT v ns (k + 1) = linesT v ns k ++ nodeT (nd ns k) := rfl
        have i1 : (0 : Int) ≤ (k : Int) := by omega
        have i2 : (k : Int) < (ns.length : Int) := by omega
        have i3 : (k : Int) ≤ (cap : Int) := by omega
        rcases hN : nd ns k with ⟨p, y, c, us, q⟩
        have HU : Hid (∀ W, Below w.heap.size w W → UpdsAt W y us) := Lib.hid (by have := HU'.out; rw [hN] at this; exact this)
        clear HU'
        rw [hN] at c0 c1 c2 SK hnx
        dsimp only at c0 c1 c2 SK
        clear hN
        obtain ⟨p1, p2, p3⟩ := nodeOk_parts SK
        obtain ⟨p, rfl⟩ : ∃ n : Nat, p = n := ⟨p.toNat, by omega⟩
        obtain ⟨q, rfl⟩ : ∃ n : Nat, q = n := ⟨q.toNat, by omega⟩
        have hp : p < 4611686018427387904 := by omega
        have hq : q < 4611686018427387904 := by have := (logOk_all p2).1; omega
        simp only [nodeT, Int.toNat_natCast] at hnx
        obtain ⟨x1, hx1⟩ : ∃ x, linesT v ns k ++ Lib.decDigits p = x := ⟨_, rfl⟩
        obtain ⟨x2, hx2⟩ : ∃ x, x1 ++ [32] = x := ⟨_, rfl⟩
        obtain ⟨x3, hx3⟩ : ∃ x, x2 ++ logT us = x := ⟨_, rfl⟩
        obtain ⟨x4, hx4⟩ : ∃ x, x3 ++ [32] = x := ⟨_, rfl⟩
        obtain ⟨x5, hx5⟩ : ∃ x, x4 ++ Lib.decDigits q = x := ⟨_, rfl⟩
        have hx6 : x5 ++ [10] = linesT v ns (k + 1) := by rw [hnx, ← hx5, ← hx4, ← hx3, ← hx2, ← hx1]; simp
        have e6 : x5.length + 1 = (linesT v ns (k + 1)).length := by rw [← hx6]; simp
        have e5 : x4.length ≤ x5.length := by rw [← hx5]; simp
        have e4 : x3.length ≤ x4.length := by rw [← hx4]; simp
        have e3 : x2.length ≤ x3.length := by rw [← hx3]; simp
        have e2 : x1.length ≤ x2.length := by rw [← hx2]; simp
        have cat1 := cat_to (P := Tryd.prog) hx1 (by omega)
        have cat2 := cat_to (P := Tryd.prog) hx2 (by omega)
        have cat3 := cat_to (P := Tryd.prog) hx3 (by omega)
        have cat4 := cat_to (P := Tryd.prog) hx4 (by omega)
        have cat5 := cat_to (P := Tryd.prog) hx5 (by omega)
        have cat6 := cat_to (P := Tryd.prog) hx6 (by omega)
        have LG := Lib.hid (fun W (h : UpdsAt W y us) => l41Log_calls y c us W p2 h)
        have g0 := grow_cell c0
        have g1 := grow_cell c1
        have g2 := grow_cell c2
        have g3 := grow_cell k1
        have HG := Lib.hid (fun x : Grown wr => s3.call (grow_below x))
        have L4 := Lib.hid (fun x : Grown wr => LG.out (grow wr x) (HU.out _ (HG.out x).below))
        obtain ⟨nx, hnn⟩ : ∃ nx, linesT v ns (k + 1) = nx := ⟨_, rfl⟩
        rw [hnn] at cat6
        have HNN := Lib.hid hnn
        clear hnn hnx hx1 hx2 hx3 hx4 hx5 hx6 e2 e3 e4 e5 e6 hjl hjs p1 p2 p3 SK
        go_wp2_with fail
        refine wp_region_grow (by kernel_rfl) (by kernel_rfl) ?_
        repeat (go_big_quiet_step (((first | (go_at_call 43; exact Calls.grow_of (L4.out _)) | (go_at_call 52; exact Calls.grow_of (l6Dec_calls _ (by assumption) _))))))
        refine wpQuiet_nil ?_
        rintro _ ⟨x, rfl⟩
        go_wp2_with fail
        go_roundw
        case rel => exact ⟨k + 1, hlt, by go_num, by rw [HNN.out], HG.out x⟩
        case measure => simp [intOf]; omega
      · obtain rfl : k = ns.length := by omega
        go_wp2_with fail
        exact bodyPost_ret (v := .string ⟨(linesT v ns ns.length).toArray⟩) (by simp [results, Tryd.results25, go_sem]) rfl ⟨by rw [FIN.out], s3.below⟩
end Go.Proofs.YtebklbncfcdkmaaDoor
