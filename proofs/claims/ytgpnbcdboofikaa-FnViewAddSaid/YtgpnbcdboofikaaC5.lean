
/-
  The walks of ViewOf. No statement is proved here.
-/
import Derived.Test.YtgpnbcdboofikaaC4
import Derived.Test.YtgpnbcdboofikaaMx
import Derived.Test.YtgpnbcdboofikaaOc
import Derived.Test.YtgpnbcdboofikaaD2
import Derived.Test.YtgpnbcdboofikaaJn
namespace Go.Proofs.Ytgpnbcdboofikaa
open Go.RowKit

noncomputable def vofNum (view : Int) (ns : List Nd) : Int := if chainOk view ns = true then view else 0
noncomputable def vofIds (view : Int) (ns : List Nd) : List Int := if chainOk view ns = true then ns.map Nd.id else []
/-- What ViewOf hands back. -/
def GaveView (w : World) (num : Int) (xs : List Int) (ok : Bool) (e : Ending) (w' : World) : Prop :=
  ∃ (a : Option Addr) (cap : Nat), e = .returned (.tuple #[.agg #[.int .i64 num, .slice a xs.length cap], .bool ok]) ∧ St w w' [row (.slice a xs.length cap) 3 1 xs.length (xs.map (Value.int .i64))]
theorem gaveView {w w' : World} {num num' : Int} {xs ys : List Int} {ok ok' : Bool} {v : Value} (h : St w w' [row v 3 1 xs.length (xs.map (Value.int .i64))]) (hn : num' = num) (hx : ys = xs) (ho : ok' = ok) : GaveView w num' ys ok' (.returned (.tuple #[.agg #[.int .i64 num, v], .bool ok])) w' := by
  subst hn; subst hx; subst ho
  obtain ⟨a, cap, rfl, _⟩ := own_cells h.own
  exact ⟨a, cap, rfl, h⟩
theorem map_take_snoc {ns : List Nd} {k : Nat} (h : k < ns.length) : (ns.map Nd.id).take (k + 1) = (ns.map Nd.id).take k ++ [(nd ns k).id] := by
  rw [List.take_succ_eq_append_getElem (by simpa using h), nd_eq h]; simp

set_option maxHeartbeats 2000000 in
theorem viewOf_calls (view : Int) (a : Option Addr) (cap : Nat) (ns : List Nd) (w : World) (hm : ns.length ≤ 1099511627776) (hs : Short ns 1099511627776) (hx : NodesAt w a ns) :
    Calls Try.prog 20 #[.agg #[.int .i64 view, .slice a ns.length cap]] w (GaveView w (vofNum view ns) (vofIds view ns) (chainOk view ns)) := by
  have s0 := ((St.start w).alloc (.cells #[.int .i64 view, .slice a ns.length cap] 25)).allocAt (.cells #[.int .i64 0, .slice none 0 0] 36) (w.heap.size + 1) (by simp)
  cases hv : chainOk view ns with
  | false =>
    have F1 : Hid (vofNum view ns = 0) := Lib.hid (by rw [vofNum, hv]; rfl)
    have F2 : Hid (vofIds view ns = []) := Lib.hid (by rw [vofIds, hv]; rfl)
    have HV := Lib.hid hv
    clear hv
    go_enter Try.func20, Try.ntmps20
    go_wp2_with fail
    refine (chainValid_calls _ _ _ _ _ hm hs (hx.below s0.below)).mono ?_
    rw [HV.out]
    rintro e w1 ⟨rfl, hb⟩
    have s1 := s0.call hb
    obtain ⟨c1, f1⟩ := s1.cells
    have s2 := (s1.set 0 (.int .i64 0)).set 1 (.slice none 0 0)
    have q2 := s2.cells.1
    have FIN := Lib.hid (gaveView (s2.drop.drop.nilRow 3 1) F1.out F2.out (rfl : false = false))
    clear s0 s1 s2 hb
    go_wp2_with fail
    exact bodyPost_ret (v := .tuple #[.agg #[.int .i64 0, .slice none 0 0], .bool false]) (by simp [results, Try.results20, go_sem, q2]) rfl FIN.out
  | true =>
    have F1 : Hid (vofNum view ns = view) := Lib.hid (by rw [vofNum, hv]; rfl)
    have F2 : Hid (vofIds view ns = ns.map Nd.id) := Lib.hid (by rw [vofIds, hv]; rfl)
    have HV := Lib.hid hv
    have hl5 := (chainOk_iff.1 hv).2.1.2
    clear hv
    go_enter Try.func20, Try.ntmps20
    go_wp2_with fail
    refine (chainValid_calls _ _ _ _ _ hm hs (hx.below s0.below)).mono ?_
    rw [HV.out]
    rintro e w1 ⟨rfl, hb⟩
    have s1 := s0.call hb
    obtain ⟨c1, _⟩ := s1.drop.cells
    have l1 := s1.drop.lt.2
    have s2 := ((s1.alloc (.cells #[.int .i64 view, .slice none 0 0] 36)).nilRow 3 1).at1
    clear s0 hb
    go_wp2_with fail
    generalize w1.alloc (.cells #[.int .i64 view, .slice none 0 0] 36 (0, 0)) = w2 at *
    generalize w1.heap.size = O at *
    clear s1 c1
    go_loopw [17] (fun i wr => ∃ (k : Nat) (v : Value), k ≤ ns.length ∧ i = .int .i64 k ∧ St w wr (box O #[.int .i64 view, v] 36 :: row v 3 1 ((ns.map Nd.id).take k).length (((ns.map Nd.id).take k).map (Value.int .i64)) :: box (w.heap.size + 1) #[.int .i64 0, .slice none 0 0] 36 :: box w.heap.size #[.int .i64 view, .slice a ns.length cap] 25 :: [])) (fun i _ => ns.length - (intOf i).toNat)
    case atStart => exact ⟨0, _, Nat.zero_le _, rfl, by simpa using s2⟩
    case round =>
      clear s2
      obtain ⟨k, v, hk, rfl, s3⟩ := hrel
      by_cases hlt : k < ns.length
      · obtain ⟨b, off, rfl, c0, c1, c2⟩ := (hx.below s3.below).cells k hlt
        have i1 : (0 : Int) ≤ (k : Int) := by omega
        have i2 : (k : Int) < (ns.length : Int) := by omega
        have SN := Lib.hid (map_take_snoc hlt)
        have hkl : ((ns.map Nd.id).take k).length ≤ 5 := by simp; omega
        generalize (ns.map Nd.id).take k = xs at *
        generalize (nd ns k).id = p at *
        generalize (nd ns k).done = q at *
        generalize (nd ns k).us.length = l at *
        generalize (nd ns k).cap = c at *
        generalize (nd ns k).a = y at *
        obtain ⟨d3, _⟩ := s3.cells
        have l3 := s3.lt.2
        have s4 := (s3.alloc (.cells #[.int .i64 p, .slice y l c, .int .i64 q] 32)).drop.at1
        have o4 := s4.own
        have lR := s4.size
        go_wp2_with ((at_builtin; refine list_app elem_int (by rfl) _ _ (by rfl) w.heap.size v xs.length (xs.map (Value.int .i64)) (by rfl) (wr.heap.size + 1) 1 1 (by rfl) #[.int .i64 p] 3 (0, 0) (by rfl) (by simp [Value.oneCell']) (by omega) (by omega) (by omega) (heap_second wr _ _) (o4.alloc _) (by simp; omega) ?_); intro gg cap3 w7 hown hgrow hat hl; have s7 := (s4.app (World.grownBy_alloc _ _ none) hown hgrow hat hl).at1; obtain ⟨d7, f7⟩ := s7.cells)
        have s8 := s7.set 1 (.slice (some ⟨gg, 0, none⟩) (xs.length + 1) cap3)
        have e8 : xs.map (Value.int .i64) ++ (#[Value.int .i64 p] : Array Value).toList = (xs ++ [p]).map (Value.int .i64) := by simp
        have e9 : xs.length + 1 = (xs ++ [p]).length := by simp
        rw [e8] at s8
        have FIN := Lib.hid s8
        clear hown hgrow hat hl o4 s4 s3 s7 e8 s8 d3
        go_roundw
        case rel => exact ⟨k + 1, _, hlt, by go_num, by rw [SN.out]; simpa using FIN.out⟩
        case measure => simp [intOf]; omega
      · rw [List.take_of_length_le (by simp; omega)] at s3
        generalize ns.map Nd.id = zs at *
        obtain ⟨a3, cap3, rfl, _⟩ := own_cells s3.drop.own
        obtain ⟨d3, _⟩ := s3.cells
        obtain ⟨e3, f3⟩ := s3.drop.drop.cells
        have s4 := (s3.at2.set 0 (.int .i64 view)).set 1 (.slice a3 zs.length cap3)
        have q4 := s4.cells.1
        have FIN := Lib.hid (gaveView s4.drop.drop.only F1.out F2.out (rfl : true = true))
        clear s3 s4
        go_wp2_with fail
        exact bodyPost_ret (v := .tuple #[.agg #[.int .i64 view, .slice a3 zs.length cap3], .bool true]) (by simp [results, Try.results20, go_sem, q4]) rfl FIN.out

set_option maxRecDepth 100000 in
set_option maxHeartbeats 2000000 in
theorem specViewOf_calls (view : Int) (a : Option Addr) (cap : Nat) (ns : List Nd) (w : World) (hm : ns.length ≤ 1099511627776) (hc : ns.length ≤ cap) (hs : Short ns 1099511627776) (hx : NodesAt w a ns) :
    Calls Try.prog 21 #[.agg #[.int .i64 view, .slice a ns.length cap]] w (GaveView w (vofNum view ns) (vofIds view ns) (chainOk view ns)) := by
  have s0 := ((St.start w).alloc (.cells #[.int .i64 view, .slice a ns.length cap] 25)).allocAt (.cells #[.int .i64 0, .slice none 0 0] 36) (w.heap.size + 1) (by simp)
  cases hv : chainOk view ns with
  | false =>
    have F1 : Hid (vofNum view ns = 0) := Lib.hid (by rw [vofNum, hv]; rfl)
    have F2 : Hid (vofIds view ns = []) := Lib.hid (by rw [vofIds, hv]; rfl)
    have HV := Lib.hid hv
    clear hv
    go_enter Try.func21, Try.ntmps21
    go_wp2_with fail
    refine (specChainValid_calls _ _ _ _ _ hm hc hs (hx.below s0.below)).mono ?_
    rw [HV.out]
    rintro e w1 ⟨rfl, hb⟩
    have s1 := s0.call hb
    obtain ⟨c1, f1⟩ := s1.cells
    have s2 := (s1.set 0 (.int .i64 0)).set 1 (.slice none 0 0)
    have q2 := s2.cells.1
    have FIN := Lib.hid (gaveView (s2.drop.drop.nilRow 3 1) F1.out F2.out (rfl : false = false))
    clear s0 s1 s2 hb
    go_wp2_with fail
    exact bodyPost_ret (v := .tuple #[.agg #[.int .i64 0, .slice none 0 0], .bool false]) (by simp [results, Try.results21, go_sem, q2]) rfl FIN.out
  | true =>
    have F1 : Hid (vofNum view ns = view) := Lib.hid (by rw [vofNum, hv]; rfl)
    have F2 : Hid (vofIds view ns = ns.map Nd.id) := Lib.hid (by rw [vofIds, hv]; rfl)
    have HV := Lib.hid hv
    have hl5 := (chainOk_iff.1 hv).2.1.2
    clear hv
    go_enter Try.func21, Try.ntmps21
    go_wp2_with fail
    refine (specChainValid_calls _ _ _ _ _ hm hc hs (hx.below s0.below)).mono ?_
    rw [HV.out]
    rintro e w1 ⟨rfl, hb⟩
    have s1 := s0.call hb
    obtain ⟨c1, _⟩ := s1.drop.cells
    have l1 := s1.drop.lt.2
    have s2 := (((s1.alloc (.cells #[] 3)).madeRow 1 0 rfl (by simp [maxLen]) 0 (Nat.le_refl _)).allocAt (.cells #[.int .i64 view, .slice (some ⟨w1.heap.size, 0, none⟩) 0 0] 36) (w1.heap.size + 1) (by simp))
    clear s0 hb
    go_wp2_with fail
    generalize (w1.alloc (.cells #[] 3 (0, 0))).alloc (.cells #[.int .i64 view, .slice (some ⟨w1.heap.size, 0, none⟩) 0 0] 36 (0, 0)) = w2 at *
    generalize w1.heap.size + 1 = O at *
    generalize w1.heap.size = U at *
    clear s1 c1
    go_loopw [5] (fun i wr => ∃ (k : Nat) (v : Value), k ≤ ns.length ∧ i = .int .i64 k ∧ St w wr (box O #[.int .i64 view, v] 36 :: row v 3 1 ((ns.map Nd.id).take k).length (((ns.map Nd.id).take k).map (Value.int .i64)) :: box (w.heap.size + 1) #[.int .i64 0, .slice none 0 0] 36 :: box w.heap.size #[.int .i64 view, .slice a ns.length cap] 25 :: [])) (fun i _ => ns.length - (intOf i).toNat)
    case atStart => exact ⟨0, _, Nat.zero_le _, rfl, by simpa using s2⟩
    case round =>
      clear s2
      obtain ⟨k, v, hk, rfl, s3⟩ := hrel
      obtain ⟨x3, _⟩ := s3.at3.cells
      by_cases hlt : k < ns.length
      · obtain ⟨b, off, rfl, c0w, _, _⟩ := hx.cells k hlt
        have CN := Lib.hid (fun W (h : Below w.heap.size w W) => (h.cell (p := ⟨b, off + k * 3, none⟩) (lt_of_cell c0w)).trans c0w)
        have c0 := CN.out _ s3.below
        have i1 : (0 : Int) ≤ (k : Int) := by omega
        have i2 : (k : Int) < (ns.length : Int) := by omega
        have SN := Lib.hid (map_take_snoc hlt)
        have hkl : ((ns.map Nd.id).take k).length ≤ 5 := by simp; omega
        generalize (ns.map Nd.id).take k = xs at *
        generalize (nd ns k).id = p at *
        obtain ⟨d3, _⟩ := s3.cells
        have k0 := d3 1
        have k1 := x3 1
        simp at k0 k1
        clear d3 c0w
        go_wp2_with fail
        obtain ⟨S, hS⟩ := Mix.named (fun w' => w'.cell? ⟨O, 1, none⟩ = some v ∧ w'.cell? ⟨w.heap.size, 1, none⟩ = some (.slice (some ⟨b, off, none⟩) ns.length cap) ∧ w'.cell? ⟨b, off + k * 3, none⟩ = some (.int .i64 p))
        have HS := Lib.hid hS
        have e0 := Mix.held_cell (fun w h => ((hS w).1 h).1)
        have e1 := Mix.held_cell (fun w h => ((hS w).1 h).2.1)
        have e2 := Mix.held_cell (fun w h => ((hS w).1 h).2.2)
        clear hS
        refine Mix.start S 11 (by kernel_rfl) ?_
        refine Mix.take [0, 1, 2, 3, 4, 5, 6, 7] 4 (by kernel_rfl) (by kernel_rfl) (by kernel_rfl) (by intro c a a' w e h; exact ⟨e.symm.trans h.1, h.2⟩) ((HS.out _).2 ⟨k0, k1, c0⟩) ?_
        intro hne
        simp only [Mix.pickOps, List.filterMap_cons, List.filterMap_nil, List.getElem?_toArray, List.getElem?_cons_zero, List.getElem?_cons_succ]
        repeat (refine Mix.cons_form ?_; go_big_quiet_step (fail))
        refine wpQuiet_nil ?_
        clear e0 e1 e2
        refine Mix.step (i := 8) (by kernel_rfl) rfl rfl ?_
        go_simp
        have s4 := s3.drew.alloc (.cells #[.int .i64 p] 3)
        have hc4 := cell_of_heap (o := 1) s4.drop.boxAt
        have hx4 := cell_of_heap (o := 1) s4.drop.at3.boxAt
        simp at hc4 hx4
        have hn4 := CN.out _ s4.below
        refine ⟨(HS.out _).2 ⟨hc4, hx4, hn4⟩, ?_⟩
        refine Mix.step (i := 9) (by kernel_rfl) rfl rfl ?_
        have o4 := s4.drop.at1.own
        have lR := s3.size
        refine wp_app elem_int _ _ (by rfl) w.heap.size v xs.length (xs.map (Value.int .i64)) (by rfl) wr.heap.size 1 1 (by rfl) #[.int .i64 p] 3 (0, 0) (by rfl) (by simp [Value.oneCell']) (by omega) (by omega) (by omega) (heap_alloc_new wr _) o4 (by simp; omega) ?_
        intro gg cap3 w7 hown hgrow hat hl
        have s7 := (s4.drop.at1.app (grown_refl _ _) hown hgrow hat hl).at1
        have hc7 := cell_of_heap (o := 1) s7.boxAt
        have hx7 := cell_of_heap (o := 1) s7.at3.boxAt
        have hf7 := frozen_of_heap (o := 1) s7.boxAt
        simp at hc7 hx7
        have hn7 := CN.out _ s7.below
        refine ⟨.inr ((HS.out _).2 ⟨hc7, hx7, hn7⟩), ?_⟩
        go_simp
        refine Mix.take [10] 1 (by kernel_rfl) (by kernel_rfl) (by kernel_rfl) (by intro c a a' w e h; exact ⟨e.symm.trans h.1, h.2⟩) ((HS.out _).2 ⟨hc7, hx7, hn7⟩) ?_
        intro hne
        simp only [Mix.pickOps, List.filterMap_cons, List.filterMap_nil, List.getElem?_toArray, List.getElem?_cons_zero, List.getElem?_cons_succ]
        repeat (refine Mix.cons_form ?_; go_big_quiet_step (fail))
        refine wpQuiet_nil ?_
        refine Mix.step (i := 11) (by kernel_rfl) rfl rfl ?_
        go_simp
        refine Mix.done (by kernel_rfl) ?_
        have s8 := s7.set 1 (.slice (some ⟨gg, 0, none⟩) (xs.length + 1) cap3)
        have e8 : xs.map (Value.int .i64) ++ (#[Value.int .i64 p] : Array Value).toList = (xs ++ [p]).map (Value.int .i64) := by simp
        rw [e8] at s8
        have FIN := Lib.hid s8
        clear hown hgrow hat hl o4 s4 s3 s7 e8 s8 hc7 hx7 hn7 hf7 hc4 hx4 hn4 k0 k1 c0 x3
        go_wp2_with fail
        go_roundw
        case rel => exact ⟨k + 1, _, hlt, by go_num, by rw [SN.out]; simpa using FIN.out⟩
        case measure => simp [intOf]; omega
      · rw [List.take_of_length_le (by simp; omega)] at s3
        generalize ns.map Nd.id = zs at *
        obtain ⟨a3, cap3, rfl, _⟩ := own_cells s3.drop.own
        obtain ⟨d3, _⟩ := s3.cells
        obtain ⟨e3, f3⟩ := s3.drop.drop.cells
        have s4 := (s3.at2.set 0 (.int .i64 view)).set 1 (.slice a3 zs.length cap3)
        have q4 := s4.cells.1
        have FIN := Lib.hid (gaveView s4.drop.drop.only F1.out F2.out (rfl : true = true))
        clear s3 s4
        go_wp2_with fail
        exact bodyPost_ret (v := .tuple #[.agg #[.int .i64 view, .slice a3 zs.length cap3], .bool true]) (by simp [results, Try.results21, go_sem, q4]) rfl FIN.out

end Go.Proofs.Ytgpnbcdboofikaa
