/-
  The walk of the program's BaseOf. No statement is proved here.
-/
import Derived.Test.YtgdbphgcpcihcaaB1
import Derived.Test.YtgdbphgcpcihcaaN1
import Derived.Test.YtgdbphgcpcihcaaJn
import Derived.Deep.RegionHeld3
namespace Go.Proofs.Ytgdbphgcpcihcaa
open Go.RowKit

/-- What BaseOf gives. -/
def baseMany (id : Int) (us : List Upd) (done : Int) : Int := if nodeOk id us done = true then done else 0
def baseState (id : Int) (us : List Upd) (done : Int) : List Int := if nodeOk id us done = true then stateAt us done else []
/-- What BaseOf hands back. -/
def GaveBase (w : World) (id : Int) (us : List Upd) (done : Int) (e : Ending) (w' : World) : Prop :=
  ∃ (a : Option Addr) (cap : Nat) (b : Option Addr) (capb : Nat), e = .returned (.tuple #[.agg #[.int .i64 (baseMany id us done), .slice a (baseState id us done).length cap], .slice b (pendingOf id us done).length capb, .bool (nodeOk id us done)]) ∧
    St w w' [row (.slice b (pendingOf id us done).length capb) 67 2 (pendingOf id us done).length (ucells (pendingOf id us done)), row (.slice a (baseState id us done).length cap) 3 1 (baseState id us done).length ((baseState id us done).map (Value.int .i64))]
theorem gave_bad {w w' : World} {id done : Int} {us : List Upd} {v : Value} {g : Nat} (h : nodeOk id us done = false) (hv : v = .slice (some ⟨g, 0, none⟩) 0 0) (hs : St w w' [row v 67 2 0 []]) :
    GaveBase w id us done (.returned (.tuple #[.agg #[.int .i64 0, .slice none 0 0], v, .bool false])) w' := by
  subst hv
  have e1 : pendingOf id us done = [] := by rw [pendingOf, h]; rfl
  have e2 : baseState id us done = [] := by rw [baseState, h]; rfl
  have e3 : baseMany id us done = 0 := by rw [baseMany, h]; rfl
  refine ⟨none, 0, some ⟨g, 0, none⟩, 0, by rw [e1, e2, e3, h]; rfl, ?_⟩
  rw [e1, e2]
  exact (hs.nilRow 3 1).at1

set_option maxHeartbeats 2000000 in
theorem baseOf_calls (a : Option Addr) (cap : Nat) (id done : Int) (us : List Upd) (w : World) (hm : us.length ≤ 1099511627776) (hc : us.length ≤ cap) (hx : UpdsAt w a us) :
    Calls Try.prog 12 #[.agg #[.int .i64 id, .slice a us.length cap, .int .i64 done]] w (GaveBase w id us done) := by
  have s0 := (((St.start w).alloc (.cells #[.int .i64 id, .slice a us.length cap, .int .i64 done] 25)).alloc (.cells #[.int .i64 0, .slice none 0 0] 29)).at1
  simp only [World.size_alloc] at s0
  cases hv : nodeOk id us done with
  | false =>
    have F := Lib.hid (fun v g W h1 h2 => gave_bad (w := w) (w' := W) (v := v) (g := g) hv h1 h2)
    have HV := Lib.hid hv
    clear hv
    go_enter Try.func12, Try.ntmps12
    go_wp2_with fail
    refine (nodeValid_calls _ _ _ _ _ _ hm (hx.below s0.below)).mono ?_
    rw [HV.out]
    rintro e w1 ⟨rfl, hb⟩
    have s1 := (s0.call hb).at1
    obtain ⟨d1, f1⟩ := s1.cells
    have lr := s1.lt.2
    go_wp2_with fail
    have s3 := ((((s1.set 0 (.int .i64 0)).set 1 (.slice none 0 0)).alloc (.cells #[] 67)).madeRow 2 0 rfl (by simp [maxLen]) 0 (Nat.le_refl _))
    simp only [World.size_setCell] at s3
    have d5 := s3.drop.cells.1
    exact bodyPost_ret (v := .tuple #[.agg #[.int .i64 0, .slice none 0 0], .slice (some ⟨w1.heap.size, 0, none⟩) 0 0, .bool false]) (by simp [results, Try.results12, go_sem, d5]) rfl (F.out _ _ _ rfl s3.only)
  | true =>
    obtain ⟨_, hlg, hd0, hd1⟩ := nodeOk_parts hv
    have E1 : baseMany id us done = done := by rw [baseMany, hv]; rfl
    have E2 : baseState id us done = stateAt us done := by rw [baseState, hv]; rfl
    unfold GaveBase
    rw [E1, E2, hv]
    have HV := Lib.hid hv
    have SA := Lib.hid (fun W (h : UpdsAt W a us) => stateAt_calls a cap us done W hm hc h)
    have NP := Lib.hid (fun W (h : UpdsAt W a us) => nodePending_calls a cap id done us W hm hc h)
    unfold MadeInts at SA
    unfold MadeUpds at NP
    clear hv E1 E2 hlg
    generalize stateAt us done = st at *
    generalize pendingOf id us done = pd at *
    go_enter Try.func12, Try.ntmps12
    go_wp2_with fail
    refine (nodeValid_calls _ _ _ _ _ _ hm (hx.below s0.below)).mono ?_
    rw [HV.out]
    rintro e w1 ⟨rfl, hb⟩
    have s2 := s0.call hb
    have k0 := s2.cells.1 0
    have k1 := s2.cells.1 1
    have k2 := s2.cells.1 2
    simp at k0 k1 k2
    have hx2 := hx.below s2.below
    clear s0 hb
    go_wp2_with fail
    go_region_held3 (fun w' => w'.cell? ⟨w.heap.size, 0, none⟩ = some (.int .i64 id) ∧ w'.cell? ⟨w.heap.size, 1, none⟩ = some (.slice a us.length cap) ∧ w'.cell? ⟨w.heap.size, 2, none⟩ = some (.int .i64 done))
      (first | go_keep | assumption | (go_split_ands; exact ⟨e0, e1, e2⟩) | (go_split_ands; exact ⟨f0, f1, f2⟩) | (go_split_ands; exact ⟨q0, q1, q2⟩))
      ((first | (go_at_call 32; refine (SA.out _ (by exact hx2)).mono ?_; rintro e w3 ⟨a3, cap3, rfl, ho3, hb3⟩; have s3 := s2.drew.fresh hb3 ho3 (Nat.le_refl _); have e0 := s3.drop.cells.1 0; have e1 := s3.drop.cells.1 1; have e2 := s3.drop.cells.1 2; simp at e0 e1 e2) | (go_at_call 44; refine (NP.out _ (by exact hx.below s3.below)).mono ?_; rintro e w4 ⟨a4, cap4, rfl, ho4, hb4⟩; have s4 := s3.fresh hb4 ho4 (Nat.le_refl _); have f0 := s4.drop.drop.cells.1 0; have f1 := s4.drop.drop.cells.1 1; have f2 := s4.drop.drop.cells.1 2; simp at f0 f1 f2; have r0 := s4.at3.cells.1 0; have r1 := s4.at3.cells.1 1; have t0 := s4.at3.cells.2 0; have t1 := s4.at3.cells.2 1; simp at r0 r1; have s5 := ((s4.at3.set 0 (.int .i64 done)).set 1 (.slice a3 st.length cap3)); have q0 := s5.drop.drop.drop.cells.1 0; have q1 := s5.drop.drop.drop.cells.1 1; have q2 := s5.drop.drop.drop.cells.1 2; simp at q0 q1 q2; obtain ⟨d5, _⟩ := s5.cells)))
    go_wp2_with fail
    exact bodyPost_ret (v := .tuple #[.agg #[.int .i64 done, .slice a3 st.length cap3], .slice a4 pd.length cap4, .bool true]) (by simp [results, Try.results12, go_sem, d5]) rfl ⟨a3, cap3, a4, cap4, rfl, s5.drop.first2⟩

end Go.Proofs.Ytgdbphgcpcihcaa
