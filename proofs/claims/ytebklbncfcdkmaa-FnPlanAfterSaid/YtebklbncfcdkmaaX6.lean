
/-
  The walks of PlaceOf, the program's and the reference's. No statement is proved here.
-/
import Derived.Test.YtebklbncfcdkmaaX5
import Derived.Test.YtebklbncfcdkmaaV1
namespace Go.Proofs.Ytebklbncfcdkmaa
open Go.RowKit

/-- The one that a piece wants most of those that are not taken. -/
def bestFrom (p : Int) (taken : List Int) : Int → List Int → Int
  | out, [] => out
  | out, x :: xs => bestFrom p taken (if x ∉ taken ∧ (out = 0 ∨ scoreP p out < scoreP p x) then x else out) xs
theorem bestFrom_inv (p : Int) (taken : List Int) : ∀ (xs pre : List Int) (out : Int), (pre ++ xs).Pairwise (· < ·) → (∀ x ∈ pre ++ xs, 1 ≤ x) →
    ((out = 0 ∧ ∀ x ∈ pre, x ∈ taken) ∨ (out ∈ pre ∧ out ∉ taken ∧ ∀ x ∈ pre, x ∉ taken → ¬ bt p x out)) →
    ((bestFrom p taken out xs = 0 ∧ ∀ x ∈ pre ++ xs, x ∈ taken) ∨ (bestFrom p taken out xs ∈ pre ++ xs ∧ bestFrom p taken out xs ∉ taken ∧ ∀ x ∈ pre ++ xs, x ∉ taken → ¬ bt p x (bestFrom p taken out xs)))
  | [], pre, out, _, _, h => by simpa [bestFrom] using h
  | x :: xs, pre, out, hs, hv, h => by
    have e : pre ++ x :: xs = (pre ++ [x]) ++ xs := by simp
    rw [e] at hs hv ⊢
    have hlt : ∀ y ∈ pre, y < x := fun y hy => by
      have := (List.pairwise_append.1 (List.pairwise_append.1 hs).1).2.2
      exact this y hy x (by simp)
    have hx1 := hv x (by simp)
    refine bestFrom_inv p taken xs (pre ++ [x]) _ hs hv ?_
    by_cases hx : x ∈ taken
    · rw [if_neg (fun h => h.1 hx)]
      rcases h with ⟨h1, h2⟩ | ⟨h1, h2, h3⟩
      · refine .inl ⟨h1, fun y hy => ?_⟩
        rcases List.mem_append.1 hy with hy | hy
        · exact h2 y hy
        · rw [List.mem_singleton.1 hy]; exact hx
      · refine .inr ⟨by simp [h1], h2, fun y hy hn => ?_⟩
        rcases List.mem_append.1 hy with hy | hy
        · exact h3 y hy hn
        · rw [List.mem_singleton.1 hy] at hn; exact absurd hx hn
    · by_cases h0 : out = 0 ∨ scoreP p out < scoreP p x
      · rw [if_pos ⟨hx, h0⟩]
        refine .inr ⟨by simp, hx, fun y hy hn => ?_⟩
        rcases List.mem_append.1 hy with hy | hy
        · rcases h with ⟨h1, h2⟩ | ⟨h1, h2, h3⟩
          · exact absurd (h2 y hy) hn
          · rcases h0 with h0 | h0
            · have := hv out (by simp [h1]); omega
            · have := h3 y hy hn
              unfold bt at *; omega
        · rw [List.mem_singleton.1 hy]; exact bt_irrefl
      · rw [if_neg (fun h => h0 h.2)]
        rcases h with ⟨h1, h2⟩ | ⟨h1, h2, h3⟩
        · exact absurd (.inl h1) h0
        · refine .inr ⟨by simp [h1], h2, fun y hy hn => ?_⟩
          rcases List.mem_append.1 hy with hy | hy
          · exact h3 y hy hn
          · rw [List.mem_singleton.1 hy]
            have := hlt out h1
            unfold bt at *; omega
theorem rank_split {p x : Int} {xs : List Int} {k : Nat} (hn : xs.Nodup) : x ∈ (rankP p xs).drop k ↔ x ∈ xs ∧ x ∉ (rankP p xs).take k := by
  have h1 : x ∈ xs ↔ x ∈ (rankP p xs).take k ++ (rankP p xs).drop k := by rw [List.take_append_drop, rankP_mem]
  have h2 := (List.nodup_append.1 (by rw [List.take_append_drop]; exact rankP_nodup (p := p) hn : ((rankP p xs).take k ++ (rankP p xs).drop k).Nodup)).2.2
  rw [h1, List.mem_append]
  constructor
  · exact fun h => ⟨.inr h, fun h' => h2 x h' x h rfl⟩
  · rintro ⟨h | h, h'⟩
    · exact absurd h h'
    · exact h
theorem best_rank {p : Int} {xs : List Int} {k : Nat} (hs : ascFrom 0 xs = true) (hk : k < xs.length) : (rankP p xs)[k]? = some (bestFrom p ((rankP p xs).take k) 0 xs) := by
  have hv := asc_valid hs
  have hd := asc_nodup hs
  have h := bestFrom_inv p ((rankP p xs).take k) xs [] 0 (asc_lt hs) (fun x hx => (hv x hx).1) (.inl ⟨rfl, by simp⟩)
  rw [List.nil_append] at h
  rcases h with ⟨_, h⟩ | ⟨h1, h2, h3⟩
  · exfalso
    have hl : k < (rankP p xs).length := by rw [rankP_len]; exact hk
    have hm : (rankP p xs)[k] ∈ (rankP p xs).drop k := by rw [List.drop_eq_getElem_cons hl]; exact List.mem_cons_self
    have := (rank_split hd).1 hm
    exact this.2 (h _ this.1)
  · exact rank_next hd hk ((rank_split hd).2 ⟨h1, h2⟩) (fun x hx => h3 x ((rank_split hd).1 hx).1 ((rank_split hd).1 hx).2)
theorem best_take {p : Int} {xs : List Int} {k : Nat} (hs : ascFrom 0 xs = true) (hk : k < xs.length) : placeP p xs (k + 1) = placeP p xs k ++ [bestFrom p (placeP p xs k) 0 xs] := by
  unfold placeP
  rw [List.take_add_one, best_rank hs hk]; rfl

def placeOk (p : Int) (xs : List Int) (m : Int) : Bool := decide (1 ≤ p ∧ p ≤ 99) && serversOk xs && decide (1 ≤ m ∧ m ≤ xs.length)
def placeR (p : Int) (xs : List Int) (m : Int) : List Int := if placeOk p xs m then placeP p xs m.toNat else []
theorem placeOk_iff {p : Int} {xs : List Int} {m : Int} : placeOk p xs m = true ↔ (1 ≤ p ∧ p ≤ 99) ∧ (xs.length ≤ 8 ∧ ascFrom 0 xs = true) ∧ 1 ≤ m ∧ m ≤ xs.length := by
  simp only [placeOk, serversOk, Bool.and_eq_true, decide_eq_true_eq, and_assoc]
theorem placeR_no {p : Int} {xs : List Int} {m : Int} (h : placeOk p xs m = false) : placeR p xs m = [] := by rw [placeR, h]; rfl
theorem placeR_yes {p : Int} {xs : List Int} {m : Int} (h : placeOk p xs m = true) : placeR p xs m = placeP p xs m.toNat := by rw [placeR, h]; rfl
theorem placeP_len (p : Int) (xs : List Int) (k : Nat) (h : k ≤ xs.length) : (placeP p xs k).length = k := by rw [placeP, List.length_take, rankP_len]; omega

/-- A list of numbers is made and handed back, and whether all was well. -/
def GaveInts (w : World) (ys : List Int) (ok : Bool) (e : Ending) (w' : World) : Prop :=
  ∃ (a : Option Addr) (cap : Nat), e = .returned (.tuple #[.slice a ys.length cap, .bool ok]) ∧ w'.ownsRow w.heap.size 3 1 (.slice a ys.length cap) ys.length (ys.map (Value.int .i64)) ∧ Below w.heap.size w w'
theorem gaveInts {w w' : World} {rs : List Res} {v : Value} {ys zs : List Int} {b c : Bool} (h : St w w' (row v 3 1 ys.length (ys.map (Value.int .i64)) :: rs)) (he : zs = ys) (hb : c = b) : GaveInts w zs c (.returned (.tuple #[v, .bool b])) w' := by
  subst he; subst hb
  obtain ⟨a, cap, rfl, _⟩ := h.ints
  exact ⟨a, cap, rfl, h.own, h.below⟩

theorem place_in {xs : List Int} {n : Int} (h : n ∈ xs) : ∃ j : Nat, place xs n = j := by
  rw [place, if_pos h]; exact ⟨_, rfl⟩
theorem place_out {xs : List Int} {n : Int} (h : n ∉ xs) : place xs n = -1 := by rw [place, if_neg h]

set_option maxHeartbeats 2000000 in
theorem l22Best_calls (p : Int) (a : Option Addr) (cap : Nat) (xs : List Int) (b : Option Addr) (cap' : Nat) (ys : List Int) (w : World) (hm : xs.length ≤ 8) (hm' : ys.length ≤ 8) (hx : IntsAt w a xs) (hy : IntsAt w b ys) (hp : 1 ≤ p ∧ p ≤ 99) (hs : ∀ x ∈ xs, 1 ≤ x ∧ x ≤ 99) :
    Calls Try.prog 36 #[.int .i64 p, .slice a xs.length cap, .slice b ys.length cap'] w fun e w' => e = .returned (.int .i64 (bestFrom p ys 0 xs)) ∧ w = w' := by
  have HS := Lib.hid hs
  have HP := Lib.hid hp
  have PL := Lib.hid (fun n => l13Place_calls b cap' ys n w (by omega) hy)
  clear hs hp hy
  go_enter Try.func36, Try.ntmps36
  go_wp2_with fail
  go_loop [7, 8] (fun o i => ∃ (k : Nat) (out : Int), k ≤ xs.length ∧ i = .int .i64 k ∧ o = .int .i64 out ∧ (out = 0 ∨ out ∈ xs) ∧ bestFrom p ys out (xs.drop k) = bestFrom p ys 0 xs) (fun _ i => xs.length - (intOf i).toNat)
  case atStart => exact ⟨0, 0, Nat.zero_le _, rfl, rfl, .inl rfl, rfl⟩
  case round =>
    obtain ⟨k, out, hk, rfl, rfl, hin, hb⟩ := hrel
    by_cases hlt : k < xs.length
    · rcases hx with rfl | ⟨bk, off, rfl, hc⟩
      · simp at hlt
      have hcell : w.cell? ⟨bk, off + k, none⟩ = some (.int .i64 xs[k]) := by
        have := hc k hlt
        simpa [hlt] using this
      have i1 : (0 : Int) ≤ (k : Int) := by omega
      have i2 : (k : Int) < (xs.length : Int) := by omega
      rw [List.drop_eq_getElem_cons hlt] at hb
      rw [show bestFrom p ys out (xs[k] :: xs.drop (k + 1)) = bestFrom p ys (if xs[k] ∉ ys ∧ (out = 0 ∨ scoreP p out < scoreP p xs[k]) then xs[k] else out) (xs.drop (k + 1)) from rfl] at hb
      have hxk := HS.out xs[k] (List.getElem_mem hlt)
      have hmem : xs[k] ∈ xs := List.getElem_mem hlt
      have PL1 := PL.out xs[k]
      clear hc
      generalize xs[k] = x at *
      by_cases hin2 : x ∈ ys
      · obtain ⟨j, hj⟩ := place_in hin2
        rw [if_neg (fun h => h.1 hin2)] at hb
        rw [hj] at PL1
        have HB := Lib.hid hb
        have HI := Lib.hid hin
        have PL2 := Lib.hid PL1
        clear hb hin PL1 hj hmem
        go_wp2_with fail
        with_reducible refine PL2.out.mono ?_
        rintro e w' ⟨rfl, rfl⟩
        go_wp2_with fail
        go_round
        case rel => exact ⟨k + 1, out, hlt, by go_num, rfl, HI.out, HB.out⟩
        case measure => simp [intOf]; omega
      · rw [place_out hin2] at PL1
        have PL2 := Lib.hid PL1
        have HI := Lib.hid hin
        have HM := Lib.hid hmem
        clear PL1 hin hmem
        by_cases h0 : out = 0
        · rw [if_pos ⟨hin2, .inl h0⟩] at hb
          have HB := Lib.hid hb
          subst h0
          clear hb
          go_wp2_with fail
          with_reducible refine PL2.out.mono ?_
          rintro e w' ⟨rfl, rfl⟩
          go_wp2_with fail
          go_round
          case rel => exact ⟨k + 1, x, hlt, by go_num, rfl, .inr HM.out, HB.out⟩
          case measure => simp [intOf]; omega
        · have h0' : (out == 0) = false := by simpa using h0
          have S1 := Lib.hid (fun w => l22Score_calls p x w HP.out hxk)
          have S2 := Lib.hid (fun w => l22Score_calls p out w HP.out (HS.out out (HI.out.resolve_left h0)))
          generalize scoreP p x = sx at *
          generalize scoreP p out = so at *
          by_cases hl : so < sx
          · rw [if_pos ⟨hin2, .inr hl⟩] at hb
            have HB := Lib.hid hb
            clear hb h0
            go_wp2_with fail
            with_reducible refine PL2.out.mono ?_
            rintro e w' ⟨rfl, rfl⟩
            go_wp2_with fail
            refine (S1.out _).mono ?_
            rintro e w' ⟨rfl, rfl⟩
            go_wp2_with fail
            refine (S2.out _).mono ?_
            rintro e w' ⟨rfl, rfl⟩
            go_wp2_with fail
            go_round
            case rel => exact ⟨k + 1, x, hlt, by go_num, rfl, .inr HM.out, HB.out⟩
            case measure => simp [intOf]; omega
          · rw [if_neg (fun h => h.2.elim h0 hl)] at hb
            have HB := Lib.hid hb
            clear hb h0
            go_wp2_with fail
            with_reducible refine PL2.out.mono ?_
            rintro e w' ⟨rfl, rfl⟩
            go_wp2_with fail
            refine (S1.out _).mono ?_
            rintro e w' ⟨rfl, rfl⟩
            go_wp2_with fail
            refine (S2.out _).mono ?_
            rintro e w' ⟨rfl, rfl⟩
            go_wp2_with fail
            go_round
            case rel => exact ⟨k + 1, out, hlt, by go_num, rfl, HI.out, HB.out⟩
            case measure => simp [intOf]; omega
    · have HB := Lib.hid (show out = bestFrom p ys 0 xs by rw [List.drop_eq_nil_of_le (by omega)] at hb; exact hb)
      clear hb
      go_wp2_with fail
      go_ret
      exact ⟨by rw [HB.out]; rfl, rfl⟩

set_option maxHeartbeats 4000000 in
theorem specPlaceOf_calls (p : Int) (a : Option Addr) (cap : Nat) (xs : List Int) (m : Int) (w : World) (hm : xs.length ≤ 1099511627776) (hx : IntsAt w a xs) :
    Calls Try.prog 32 #[.int .i64 p, .slice a xs.length cap, .int .i64 m] w (GaveInts w (placeR p xs m) (placeOk p xs m)) := by
  have s1 := ((St.start w).alloc (.cells #[] 3)).madeRow 1 0 rfl (by simp [maxLen]) 0 (Nat.le_refl _)
  simp only [List.take_nil] at s1
  by_cases hp : 1 ≤ p ∧ p ≤ 99
  · have HP := Lib.hid (fun w => l6In_yes p 1 99 w hp)
    have hx1 := hx.below s1.below
    cases hs : serversOk xs with
    | false =>
      have NO : Hid (placeOk p xs m = false) := Lib.hid (by rw [placeOk, hs]; simp)
      have HS := Lib.hid hs
      clear hs hp
      go_enter Try.func32, Try.ntmps32
      go_wp2_with fail
      with_reducible refine (HP.out _).mono ?_
      rintro e w' ⟨rfl, rfl⟩
      go_wp2_with fail
      with_reducible refine (spec_servers _ _ _ _ hm hx1).mono ?_
      rw [HS.out]
      rintro e w1 ⟨rfl, hb⟩
      have FIN := Lib.hid (gaveInts (s1.call hb) (ys := []) (placeR_no NO.out) NO.out)
      clear s1
      go_wp2_with fail
      exact bodyPost_ret (v := .tuple #[.slice (some ⟨w.heap.size, 0, none⟩) 0 0, .bool false]) (by simp [results, Try.results32, go_sem]) rfl FIN.out
    | true =>
      obtain ⟨h8, hasc⟩ := (show xs.length ≤ 8 ∧ ascFrom 0 xs = true by simpa [serversOk] using hs)
      by_cases hmm : 1 ≤ m ∧ m ≤ xs.length
      · have YES : Hid (placeOk p xs m = true) := Lib.hid (placeOk_iff.2 ⟨hp, ⟨h8, hasc⟩, hmm⟩)
        have HM := Lib.hid (fun w => l6In_yes m 1 xs.length w hmm)
        obtain ⟨n, rfl⟩ := Int.eq_ofNat_of_zero_le (show 0 ≤ m by omega)
        have hn : n ≤ xs.length := by omega
        have HS := Lib.hid hs
        have HPP := Lib.hid hp
        have HASC := Lib.hid hasc
        have HMM := Lib.hid hmm
        clear hs hp hasc hmm
        go_enter Try.func32, Try.ntmps32
        go_wp2_with fail
        with_reducible refine (HP.out _).mono ?_
        rintro e w' ⟨rfl, rfl⟩
        go_wp2_with fail
        with_reducible refine (spec_servers _ _ _ _ hm hx1).mono ?_
        rw [HS.out]
        rintro e w1 ⟨rfl, hb⟩
        have s2 := s1.call hb
        clear s1 hb hx1
        generalize w.heap.size = B at s2
        go_wp2_with fail
        with_reducible refine (HM.out _).mono ?_
        rintro e w' ⟨rfl, rfl⟩
        go_wp2_with fail
        go_loopw [8, 9] (fun v i wr => ∃ (k : Nat), k ≤ n ∧ i = .int .i64 k ∧ St w wr [row v 3 1 (placeP p xs k).length ((placeP p xs k).map (Value.int .i64))]) (fun _ i _ => n - (intOf i).toNat)
        case atStart => exact ⟨0, Nat.zero_le _, rfl, s2⟩
        case round =>
          clear s2
          obtain ⟨k, hk, rfl, s3⟩ := hrel
          by_cases hlt : k < n
          · have BT := Lib.hid (best_take (p := p) HASC.out (show k < xs.length by omega))
            have PLEN : (placeP p xs k).length ≤ 8 := by rw [placeP_len p xs k (by omega)]; omega
            obtain ⟨va, vc, rfl, iv⟩ := s3.ints
            have BEST := Lib.hid (l22Best_calls p a cap xs va vc (placeP p xs k) wr h8 (by omega) (hx.below s3.below) iv HPP.out (asc_valid HASC.out))
            clear iv
            generalize placeP p xs k = ys at *
            generalize bestFrom p ys 0 xs = z at *
            have o3 := s3.own
            have lR := s3.size
            go_wp2_with fail
            with_reducible refine BEST.out.mono ?_
            rintro e w' ⟨rfl, rfl⟩
            go_wp2_with ((at_builtin; refine list_app elem_int (by rfl) _ _ (by rfl) w.heap.size (.slice va ys.length vc) ys.length (ys.map (Value.int .i64)) (by rfl) wr.heap.size 1 1 (by rfl) #[.int .i64 z] 3 (0, 0) (by rfl) (by simp [Value.oneCell']) (by omega) (by omega) (by omega) (heap_alloc_new wr _) (o3.alloc _) (by simp; omega) ?_); intro gg cap3 w7 hown hgrow hat hl)
            have s7 := s3.app (World.grownBy_alloc wr _ none) hown hgrow hat hl
            clear hown hgrow hat hl s3 o3
            go_wp2_with fail
            go_roundw
            case rel => exact ⟨k + 1, hlt, by go_num, by rw [BT.out]; simpa using s7⟩
            case measure => simp [intOf]; omega
          · have e : k = n := by omega
            subst e
            have FIN := Lib.hid (gaveInts s3 (placeR_yes YES.out) YES.out)
            clear s3
            go_wp2_with fail
            go_ret2
            exact FIN.out
      · have NO : Hid (placeOk p xs m = false) := Lib.hid (by cases h : placeOk p xs m with | false => rfl | true => exact absurd (placeOk_iff.1 h).2.2 hmm)
        have HM := Lib.hid (fun w => l6In_no m 1 xs.length w hmm)
        have HS := Lib.hid hs
        clear hs hp hasc hmm
        go_enter Try.func32, Try.ntmps32
        go_wp2_with fail
        with_reducible refine (HP.out _).mono ?_
        rintro e w' ⟨rfl, rfl⟩
        go_wp2_with fail
        with_reducible refine (spec_servers _ _ _ _ hm hx1).mono ?_
        rw [HS.out]
        rintro e w1 ⟨rfl, hb⟩
        have FIN := Lib.hid (gaveInts (s1.call hb) (ys := []) (placeR_no NO.out) NO.out)
        clear s1
        go_wp2_with fail
        with_reducible refine (HM.out _).mono ?_
        rintro e w' ⟨rfl, rfl⟩
        go_wp2_with fail
        exact bodyPost_ret (v := .tuple #[.slice (some ⟨w.heap.size, 0, none⟩) 0 0, .bool false]) (by simp [results, Try.results32, go_sem]) rfl FIN.out
  · have NO : Hid (placeOk p xs m = false) := Lib.hid (by cases h : placeOk p xs m with | false => rfl | true => exact absurd (placeOk_iff.1 h).1 hp)
    have HP := Lib.hid (fun w => l6In_no p 1 99 w hp)
    have FIN := Lib.hid (gaveInts s1 (ys := []) (placeR_no NO.out) NO.out)
    clear hp s1
    go_enter Try.func32, Try.ntmps32
    go_wp2_with fail
    with_reducible refine (HP.out _).mono ?_
    rintro e w' ⟨rfl, rfl⟩
    go_wp2_with fail
    exact bodyPost_ret (v := .tuple #[.slice (some ⟨w.heap.size, 0, none⟩) 0 0, .bool false]) (by simp [results, Try.results32, go_sem]) rfl FIN.out

end Go.Proofs.Ytebklbncfcdkmaa
