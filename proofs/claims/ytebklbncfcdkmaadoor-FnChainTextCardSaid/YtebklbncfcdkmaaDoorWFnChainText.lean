
/-
  The walk of FnChainText.
-/
import Derived.Test.YtebklbncfcdkmaaDoorC11
import Derived.Test.YtebklbncfcdkmaaDoorY7
import Derived.Test.YtebklbncfcdkmaaDoorYA
import Derived.Test.YtebklbncfcdkmaaDoorOp8
namespace Go.Proofs.YtebklbncfcdkmaaDoor.fnChainText
open Go.RowKit Go.Proofs.YtebklbncfcdkmaaDoor

set_option maxRecDepth 100000 in
set_option maxHeartbeats 4000000 in
theorem walk (v0 : Value) (w : World) (hL : Pow10 w) (h0 : IsCodeV w v0) :
    Calls Tryd.prog 6 #[v0] w fun e w' => e = .returned (.bool true) ∧ Below w.heap.size w w' := by
  obtain ⟨a0, len0, cap0, z0, rfl, w0⟩ := h0
  have hle := w0.le
  have hby := w0.bytes
  clear w0
  by_cases hbig : len0 ≤ 1048576
  · go_enter Tryd.func6, Tryd.ntmps6
    go_wp2_with fail
    refine (drawChainText_calls _ _ _ _ hle.1 hle.2 hby).mono ?_
    rintro e w1 ⟨view, a, cap, ns, rfl, ⟨hn1, hn5, hcap, hsh⟩, hx, hb1⟩
    have hm : ns.length ≤ 1099511627776 := by omega
    have hsm : Short ns 1099511627776 := fun n hn => Nat.le_trans (hsh n hn) (by omega)
    have HB := Lib.hid (fun W R (k : St w1 W R) => hb1.trans (k.below.mono hb1.size))
    have HX := Lib.hid hx
    have HP := Lib.hid (hL.below hb1)
    have s1 := (St.start w1).alloc (.cells #[.int .i64 view, .slice a ns.length cap] 40)
    have IM := Lib.hid (fun W (h : NodesAt W a ns) (ht : Pow10 W) => chainText_calls view a cap ns W hm hsm h ht)
    have SP := Lib.hid (fun W (h : NodesAt W a ns) => specChainText_calls view a cap ns W hm hcap hsm h)
    clear hby hb1 hsm hsh hx hL hm
    cases hok : chainOk view ns with
    | false =>
      rw [show chainText view ns = [] by simp [chainText, hok]] at SP IM
      clear hok
      go_wp2_with fail
      refine (IM.out _ (HX.out.below s1.below) (HP.out.below s1.below)).mono ?_
      rintro e w2 ⟨rfl, hb2⟩
      have s2 := s1.call hb2
      obtain ⟨c2, _⟩ := s2.cells
      clear s1 hb2
      go_wp2_with fail
      refine (SP.out _ (HX.out.below s2.below)).mono ?_
      rintro e w3 ⟨rfl, hb3⟩
      have s3 := s2.call hb3
      clear s2 hb3 c2
      go_wp2_with fail
      go_ret
      exact ⟨rfl, HB.out _ _ s3⟩
    | true =>
      have hnl := nl_linesT view ns ns.length
      have hll := linesT_length hok ns.length (Nat.le_refl _)
      obtain ⟨r, hr⟩ := lines_head view ns ns.length
      rw [show chainText view ns = linesT view ns ns.length by simp [chainText, hok]] at SP IM
      obtain ⟨t, ht⟩ : ∃ t, linesT view ns ns.length = t := ⟨_, rfl⟩
      rw [ht] at SP IM hnl hll hr
      obtain ⟨S, hS⟩ : ∃ S : ByteArray, (⟨t.toArray⟩ : ByteArray) = S := ⟨_, rfl⟩
      rw [hS] at SP IM
      have hE : S.toList.isEmpty = false := by rw [← hS, hr]; simp
      have hsz : S.size = t.length := by rw [← hS]; simp [ByteArray.size]
      have hdl : S.data.toList = t := by rw [← hS]
      have hex : S.extract 0 5 = ⟨#[118, 105, 101, 119, 32]⟩ := by
        rw [← hS, hr]
        apply ByteArray.ext
        rw [ByteArray.data_extract]
        apply Array.toList_inj.1
        simp
      have h5 : 5 ≤ S.size := by rw [hsz, hr]; simp
      have HD := Lib.hid hdl
      have HZ := Lib.hid hsz
      clear hok ht hS hdl hr hsz
      go_wp2_with fail
      refine (IM.out _ (HX.out.below s1.below) (HP.out.below s1.below)).mono ?_
      rintro e w2 ⟨rfl, hb2⟩
      have s2 := s1.call hb2
      obtain ⟨c2, _⟩ := s2.cells
      clear s1 hb2
      go_wp2_with fail
      refine (SP.out _ (HX.out.below s2.below)).mono ?_
      rintro e w3 ⟨rfl, hb3⟩
      have s3 := s2.call hb3
      clear s2 hb3 c2
      go_wp2_with fail
      go_loopw [6, 7] (fun n i wr => ∃ k : Nat, k ≤ S.size ∧ i = .int .i64 k ∧ n = .int .i64 (nl (S.data.toList.take k) : Nat) ∧ wr = w3) (fun _ i _ => S.size - (intOf i).toNat)
      case atStart => exact ⟨0, Nat.zero_le _, rfl, rfl, rfl⟩
      case round =>
        obtain ⟨k, hk, rfl, rfl, rfl⟩ := hrel
        have hz := HZ.out
        have hnk := nl_le (S.data.toList.take k)
        have hlk : (S.data.toList.take k).length ≤ k := List.length_take_le _ _
        by_cases hlt : k < S.size
        · have HS1 : Hid (nl (S.data.toList.take (k + 1)) = nl (S.data.toList.take k) + if ((S[k].toNat : Int) == 10) = true then 1 else 0) := Lib.hid (by rw [take_snocB S k hlt, nl_snoc]; simp)
          have i1 : (k : Int) < (S.size : Int) := by omega
          have b1 : (nl (S.data.toList.take k) : Int) ≤ 100000 := by omega
          have b2 : (k : Int) ≤ 100000 := by omega
          generalize nl (S.data.toList.take k) = m at *
          clear hz hnk hlk
          go_wp2_with fail
          all_goals
            go_roundw
            case rel => exact ⟨k + 1, hlt, by go_num, by rw [HS1.out]; first | (rw [if_pos (by assumption)]; go_num) | (rw [if_neg (by simp [*])]; go_num), by first | rfl | trivial⟩
            case measure => simp [intOf]; omega
        · obtain rfl : k = S.size := by omega
          have ek : S.data.toList.take S.size = S.data.toList := List.take_of_length_le (by simp)
          rw [ek, HD.out, hnl]
          obtain ⟨c3, _⟩ := s3.cells
          have k1 := (c3 1).trans (show _ = some (Value.slice a ns.length cap) from rfl)
          have eq1 : ((ns.length : Int) + 1 == (ns.length : Int) + 1) = true := by simp
          have b3 : (ns.length : Int) ≤ 5 := by omega
          have F := Lib.hid (HB.out _ _ s3)
          clear c3 ek hz hnk hlk hnl s3
          rw [show (((ns.length + 1 : Nat)) : Int) = (ns.length : Int) + 1 by omega]
          go_wp2_with fail
          go_ret
          exact ⟨rfl, F.out⟩
  · go_enter Tryd.func6, Tryd.ntmps6
    go_wp2_with fail
    go_ret
    exact ⟨rfl, Below.refl _ _⟩
end Go.Proofs.YtebklbncfcdkmaaDoor.fnChainText
