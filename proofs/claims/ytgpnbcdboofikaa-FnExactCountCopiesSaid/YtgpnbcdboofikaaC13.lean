
/-
  The walk of copyNode, and words on what a chain holds. No statement is proved here.
-/
import Derived.Test.YtgpnbcdboofikaaC12
import Derived.Test.YtgpnbcdboofikaaC10
import Derived.Test.YtgpnbcdboofikaaJn
namespace Go.Proofs.Ytgpnbcdboofikaa
open Go.RowKit

/-- What a node holds. -/
abbrev Key := Int × List Upd × Int
def keyOf (n : Nd) : Key := (n.id, n.us, n.done)
def keys (ns : List Nd) : List Key := ns.map keyOf
theorem keys_len (ns : List Nd) : (keys ns).length = ns.length := by simp [keys]
theorem keys_nd {ns ms : List Nd} (h : keys ns = keys ms) (i : Nat) : (nd ns i).id = (nd ms i).id ∧ (nd ns i).us = (nd ms i).us ∧ (nd ns i).done = (nd ms i).done := by
  have hl : ns.length = ms.length := by rw [← keys_len ns, h, keys_len]
  by_cases hi : i < ns.length
  · have h1 : (keys ns)[i]? = (keys ms)[i]? := by rw [h]
    rw [keys, keys, List.getElem?_map, List.getElem?_map, List.getElem?_eq_getElem hi, List.getElem?_eq_getElem (hl ▸ hi)] at h1
    simp only [Option.map_some, Option.some.injEq, keyOf, Prod.mk.injEq] at h1
    rw [nd_eq hi, nd_eq (hl ▸ hi)]
    exact h1
  · have e1 : nd ns i = default := by simp [nd, hi]
    have e2 : nd ms i = default := by simp [nd, show ¬ i < ms.length by omega]
    rw [e1, e2]; exact ⟨rfl, rfl, rfl⟩
theorem keys_nd_of {ns ms : List Nd} (hl : ns.length = ms.length) (h : ∀ i, i < ns.length → (nd ns i).id = (nd ms i).id ∧ (nd ns i).us = (nd ms i).us ∧ (nd ns i).done = (nd ms i).done) : keys ns = keys ms := by
  apply List.ext_getElem
  · simp [keys, hl]
  · intro i h1 h2
    have hi : i < ns.length := by simpa [keys] using h1
    have := h i hi
    rw [nd_eq hi, nd_eq (hl ▸ hi)] at this
    simp only [keys, List.getElem_map, keyOf]
    rw [this.1, this.2.1, this.2.2]
theorem chain_keys {view : Int} {ns ms : List Nd} (h : keys ns = keys ms) : chainOk view ns = chainOk view ms := by
  have hl : ns.length = ms.length := by rw [← keys_len ns, h, keys_len]
  have hk := keys_nd h
  have e : chainP view ns ↔ chainP view ms := by
    unfold chainP stepP tailP
    simp only [(hk _).1, (hk _).2.1, (hk _).2.2, hl]
  cases h1 : chainOk view ns with
  | true => exact (chainOk_yes (e.1 (chainOk_iff.1 h1))).symm
  | false =>
    refine (chainOk_not fun hc => ?_).symm
    rw [chainOk_yes (e.2 hc)] at h1
    cases h1

set_option maxRecDepth 100000 in
set_option maxHeartbeats 1000000 in
theorem copyNode_calls (id done : Int) (a : Option Addr) (cap : Nat) (us : List Upd) (w : World) (hm : us.length ≤ 2097152) (hx : UpdsAt w a us) :
    Calls Try.prog 47 #[.agg #[.int .i64 id, .slice a us.length cap, .int .i64 done]] w fun e w' => ∃ g, e = .returned (.agg #[.int .i64 id, .slice (some ⟨g, 0, none⟩) us.length us.length, .int .i64 done]) ∧ St w w' [row (.slice (some ⟨g, 0, none⟩) us.length us.length) 91 2 us.length (ucells us)] := by
  have s0 := ((St.start w).alloc (.cells #[.int .i64 id, .slice a us.length cap, .int .i64 done] 32)).allocAt (.cells #[.int .i64 0, .slice none 0 0, .int .i64 0] 32) (w.heap.size + 1) (by simp)
  go_enter Try.func47, Try.ntmps47
  go_wp2_with fail
  generalize (w.alloc (.cells #[.int .i64 id, .slice a us.length cap, .int .i64 done] 32 (0, 0))).alloc (.cells #[.int .i64 0, .slice none 0 0, .int .i64 0] 32 (0, 0)) = w1 at *
  obtain ⟨S, hS⟩ := Mix.named (fun w' => w'.cell? ⟨w.heap.size, 0, none⟩ = some (.int .i64 id) ∧ w'.cell? ⟨w.heap.size, 1, none⟩ = some (.slice a us.length cap) ∧ w'.cell? ⟨w.heap.size, 2, none⟩ = some (.int .i64 done))
  have HS := Lib.hid hS
  have e0 := Mix.held_cell (fun w h => ((hS w).1 h).1)
  have e1 := Mix.held_cell (fun w h => ((hS w).1 h).2.1)
  have e2 := Mix.held_cell (fun w h => ((hS w).1 h).2.2)
  clear hS
  have SO := Lib.hid (fun W rr (hr : boxo w.heap.size (.cells #[.int .i64 id, .slice a us.length cap, .int .i64 done] 32 (0, 0)) ∈ rr) (s : St w W rr) => by
    have a0 := cell_of_heap (o := 0) (s.pull hr).boxAt
    have a1 := cell_of_heap (o := 1) (s.pull hr).boxAt
    have a2 := cell_of_heap (o := 2) (s.pull hr).boxAt
    simp at a0 a1 a2
    exact (HS.out W).2 ⟨a0, a1, a2⟩)
  have s1 := s0.drew
  refine Mix.start S 8 (by kernel_rfl) ?_
  refine Mix.take [0, 1, 2, 3, 5, 6] 3 (by kernel_rfl) (by kernel_rfl) (by kernel_rfl) (by intro c a a' w e h; exact ⟨e.symm.trans h.1, h.2⟩) (SO.out _ _ (by simp) s1) ?_
  intro hne
  simp only [Mix.pickOps, List.filterMap_cons, List.filterMap_nil, List.getElem?_toArray, List.getElem?_cons_zero, List.getElem?_cons_succ]
  repeat (refine Mix.cons_form ?_; go_big_quiet_step (fail))
  refine wpQuiet_nil ?_
  clear hne
  refine Mix.step (i := 4) (by kernel_rfl) rfl rfl ?_
  go_simp
  refine (copyLog_calls a us.length cap us _ rfl hm (hx.below s1.below)).mono ?_
  rintro e w2 ⟨g, rfl, ss⟩
  have s2 := s1.join ss
  simp only [List.cons_append, List.nil_append] at s2
  refine And.intro (SO.out _ _ (by simp) s2) ?_
  go_simp
  clear s0 s1 ss
  refine Mix.take [7] 1 (by kernel_rfl) (by kernel_rfl) (by kernel_rfl) (by intro c a a' w e h; exact ⟨e.symm.trans h.1, h.2⟩) (SO.out _ _ (by simp) s2) ?_
  intro hne
  simp only [Mix.pickOps, List.filterMap_cons, List.filterMap_nil, List.getElem?_toArray, List.getElem?_cons_zero, List.getElem?_cons_succ]
  repeat (refine Mix.cons_form ?_; go_big_quiet_step (fail))
  refine wpQuiet_nil ?_
  clear hne
  refine Mix.step (i := 8) (by kernel_rfl) rfl rfl ?_
  obtain ⟨c2, f2⟩ := s2.at1.cells
  have s3 := ((s2.at1.set 0 (.int .i64 id)).set 1 (.slice (some ⟨g, 0, none⟩) us.length us.length)).set 2 (.int .i64 done)
  have q3 := s3.cells.1
  go_simp
  refine Mix.done (by kernel_rfl) ?_
  have FIN := Lib.hid s3.drop.only
  clear s2 s3 c2 f2
  go_wp2_with fail
  exact bodyPost_ret (v := .agg #[.int .i64 id, .slice (some ⟨g, 0, none⟩) us.length us.length, .int .i64 done]) (by simp [results, Try.results47, go_sem, q3]) rfl ⟨g, rfl, FIN.out⟩

end Go.Proofs.Ytgpnbcdboofikaa
