
/-
  The walk of PlanLoad, and sums of loads. No statement is proved here.
-/
import Derived.Test.YtcnanhjagefmjaaX19
namespace Go.Proofs.Ytcnanhjagefmjaa
open Go.RowKit

def loadOf (R : List Mv) (n : Int) : Nat := (R.filter fun v => decide (v.2.2 = n)).length
theorem loadOf_le (R : List Mv) (n : Int) : loadOf R n ≤ R.length := List.length_filter_le _ _
theorem loadOf_snoc (R : List Mv) (v : Mv) (n : Int) : loadOf (R ++ [v]) n = loadOf R n + (if v.2.2 = n then 1 else 0) := by
  unfold loadOf
  rw [List.filter_append]
  by_cases h : v.2.2 = n
  · simp [h]
  · simp [h]
def loadSum (al : List Int) (R : List Mv) : Nat := (al.map (loadOf R)).sum
theorem loadSum_snoc (al : List Int) (s : Int) (R : List Mv) : loadSum (al ++ [s]) R = loadSum al R + loadOf R s := by simp [loadSum]
theorem loadSum_le (R : List Mv) : ∀ al : List Int, loadSum al R ≤ al.length * R.length
  | [] => by simp [loadSum]
  | s :: al => by
    have h1 := loadSum_le R al
    have h2 := loadOf_le R s
    have e : loadSum (s :: al) R = loadOf R s + loadSum al R := by simp [loadSum]
    rw [e, List.length_cons, Nat.add_mul]
    omega
theorem ind_sum (x : Int) : ∀ al : List Int, al.Nodup → (al.map fun s => if x = s then 1 else 0).sum = if x ∈ al then 1 else 0
  | [], _ => by simp
  | s :: al, h => by
    obtain ⟨h1, h2⟩ := List.nodup_cons.1 h
    rw [List.map_cons, List.sum_cons, ind_sum x al h2]
    by_cases e : x = s
    · subst e; simp [h1]
    · simp [e]
theorem sum_add (f g : Int → Nat) : ∀ al : List Int, (al.map fun s => f s + g s).sum = (al.map f).sum + (al.map g).sum
  | [] => rfl
  | s :: al => by simp only [List.map_cons, List.sum_cons, sum_add f g al]; omega
theorem zero_sum : ∀ al : List Int, (al.map fun _ => 0).sum = 0
  | [] => rfl
  | s :: al => by rw [List.map_cons, List.sum_cons, zero_sum al]
theorem load_all {al : List Int} (hn : al.Nodup) : ∀ R : List Mv, (∀ v ∈ R, v.2.2 ∈ al) → loadSum al R = R.length
  | [], _ => zero_sum al
  | v :: R, h => by
    have e : loadOf (v :: R) = fun s => (if v.2.2 = s then 1 else 0) + loadOf R s := by
      funext s
      unfold loadOf
      by_cases hs : v.2.2 = s
      · simp [hs]; omega
      · simp [hs]
    unfold loadSum
    rw [e, sum_add, ind_sum _ _ hn, if_pos (h v (by simp))]
    have := load_all hn R (fun v hv => h v (by simp [hv]))
    unfold loadSum at this
    rw [this, List.length_cons]
    omega

set_option maxHeartbeats 2000000 in
theorem planLoad_calls (a : Option Addr) (cap : Nat) (ms : List Mv) (n : Int) (w : World) (hm : ms.length ≤ 1000) (hx : CellsAt w a (mcells ms)) :
    Calls Try.prog 35 #[.slice a ms.length cap, .int .i64 n] w fun e w' => e = .returned (.int .i64 (loadOf ms n)) ∧ Below w.heap.size w w' := by
  go_enter Try.func35, Try.ntmps35
  go_wp2_with fail
  go_loopw [5, 10] (fun l i wr => ∃ k : Nat, k ≤ ms.length ∧ i = .int .i64 k ∧ l = .int .i64 (loadOf (ms.take k) n) ∧ Below w.heap.size w wr) (fun _ i _ => ms.length - (intOf i).toNat)
  case atStart => exact ⟨0, Nat.zero_le _, rfl, rfl, Below.refl _ _⟩
  case round =>
    obtain ⟨k, hk, rfl, rfl, hb⟩ := hrel
    by_cases hlt : k < ms.length
    · obtain ⟨b, off, rfl, c0, c1, c2⟩ := (hx.below hb).move k hlt
      have i1 : (0 : Int) ≤ (k : Int) := by omega
      have i2 : (k : Int) < (ms.length : Int) := by omega
      have LS := loadOf_snoc (ms.take k) ms[k] n
      rw [← show ms.take (k + 1) = ms.take k ++ [ms[k]] by rw [List.take_add_one, List.getElem?_eq_getElem hlt]; rfl] at LS
      have hll := loadOf_le (ms.take k) n
      rw [List.length_take] at hll
      generalize ms[k] = v at *
      obtain ⟨p, f, t⟩ := v
      dsimp only at c0 c1 c2 LS
      have hb2 := hb.alloc hb.size (.cells #[.int .i64 p, .int .i64 f, .int .i64 t] 46)
      by_cases ht : t = n
      · rw [if_pos ht] at LS
        have LH := Lib.hid LS
        have ht' : (t == n) = true := by simpa using ht
        clear LS ht
        generalize loadOf (ms.take k) n = L at *
        go_wp2_with fail
        go_roundw
        case rel => exact ⟨k + 1, hlt, by go_num, by rw [LH.out]; go_num, hb2⟩
        case measure => simp [intOf]; omega
      · rw [if_neg ht] at LS
        have LH := Lib.hid LS
        have ht' : (t == n) = false := by simpa using ht
        clear LS ht
        generalize loadOf (ms.take k) n = L at *
        go_wp2_with fail
        go_roundw
        case rel => exact ⟨k + 1, hlt, by go_num, by rw [LH.out]; rfl, hb2⟩
        case measure => simp [intOf]; omega
    · rw [List.take_of_length_le (by omega)]
      go_wp2_with fail
      go_ret
      exact ⟨rfl, hb⟩

end Go.Proofs.Ytcnanhjagefmjaa
