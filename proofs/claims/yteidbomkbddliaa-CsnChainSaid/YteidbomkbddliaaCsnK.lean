/-
  The walks of layer 15: slices.Insert in place; with, Note, Join.
-/
import Derived.Test.YteidbomkbddliaaCsnJ
namespace Go.Proofs.Yteidbomkbddliaa.Csn
open Go.RowKit

set_option maxRecDepth 100000 in
set_option maxHeartbeats 4000000 in
/-- Insert ahead of the end, in place. -/
theorem insert_room (w : World) (base g c gv i : Nat) (l : List C) (x : C) (cur : List Value) (h : InsArgs w base g c gv l x cur) (hgw : g < w.heap.size) (hn : l.length ≤ 100) (hil : i < l.length) (hc : l.length < c) :
    Calls Try.prog 56 #[.slice (some ⟨g, 0, none⟩) l.length c, .int .i64 (i : Int), .slice (some ⟨gv, 0, none⟩) 1 1] w (IsOwn w base (insAt l i x)) := by
  have HA := Lib.hid h
  have hcm : c ≤ 9223372036854775807 := h.small
  have HBG := Lib.hid h.hb
  obtain ⟨n, hnl⟩ : ∃ n, n = l.length := ⟨_, rfl⟩
  have hcs := h.size
  rw [← hnl] at hn hil hc ⊢
  have HNL := Lib.hid hnl
  have HCS := Lib.hid hcs
  have hov := overlaps_no w gv g ((i + 1) * 3) 1 (n - i) 1 (c - (i + 1)) h.ne _ _ h.val h.row (by rw [List.size_toArray, hcs]; omega)
  have HTL := Lib.hid (h.tail i w rfl)
  clear h hnl hcs
  have c1 : ¬ c = i := by omega
  have c2 : ¬ c = i + 1 := by omega
  have c3 : i + 1 ≤ c := by omega
  have c4 : i ≤ c := by omega
  have c5 : n + 1 ≤ c := by omega
  have c6 : (i == n) = false := by simp; omega
  have hin : i ≤ n := by omega
  have hin1 : i ≤ n + 1 := by omega
  have hin2 : (i : Int) ≤ (n : Int) + 1 := by omega
  have w1 : IntKind.i64.wrap ((i : Int) + 1) = (i : Int) + 1 := IntWalk.i64_in _ (by omega)
  have w2' : (0 : Int) ≤ (i : Int) + 1 := by omega
  have w3 : ((i : Int) + 1).toNat = i + 1 := by omega
  have w4 : (i : Int) + 1 ≤ (n : Int) + 1 := by omega
  have HM := Lib.hid (show Nat.min (n + 1 - i) (n - i) = n - i from Nat.min_eq_right (by omega))
  have HM2 := Lib.hid (Nat.min_eq_left (show 1 ≤ n + 1 - i by omega))
  have hlen : (flat (l.drop i)).length = (n - i) * 3 := by rw [flat_length, List.length_drop, ← HNL.out]
  have HLEN := Lib.hid hlen
  have HFIT := Lib.hid (show (i + 1) * 3 + (flat (l.drop i)).length ≤ cur.length by rw [hlen, HCS.out]; omega)
  have HFIT2 := Lib.hid (show i * 3 + (ovl x).length ≤ (over cur ((i + 1) * 3) (flat (l.drop i))).length by rw [over_length _ _ _ HFIT.out, ovl_length, HCS.out]; omega)
  have HFO := Lib.hid (flat_one (l.drop i))
  clear hlen
  go_enter Try.func56, Try.ntmps56
  go_upto_region 15 with fail
  go_cut [] (fun wx => wx.heap[g]? = some (.cells (over cur ((i + 1) * 3) (flat (l.drop i))).toArray 23 (0, 0)) ∧ w.grownBy wx (some g))
  case first =>
    go_still_tail 8, (by kernel_rfl)
    go_wp2_with ((with_reducible refine at_dst 77 ?_); go_must (refine wpList_copy_at rfl (.tmp 73) (.tmp 76) _ _ rfl 23 3 Try.underlying39 csn_size g ((i + 1) * 3) (n - i) (c - (i + 1)) ⟨g, i * 3, none⟩ (n + 1 - i) (c - i) (n - i) (by rfl) (by rfl) HM.out cur _ HA.out.row (flat (l.drop i)) HLEN.out HTL.out HFIT.out HFO.out ?_); intro w5 hrow5 hg5; have HR5 := Lib.hid hrow5; have HG5 := Lib.hid hg5; clear hrow5 hg5)
    go_meet
    exact ⟨HR5.out, ⟨HG5.out.os, HG5.out.tape, HG5.out.output, HG5.out.size, HG5.out.block⟩⟩
  case rest =>
    obtain ⟨hrow5, hg5⟩ := hcut
    obtain ⟨w5, rfl⟩ : ∃ x : World, x = wc := ⟨_, rfl⟩
    have HR5 := Lib.hid hrow5
    have HG5 := Lib.hid hg5
    have HSV := Lib.hid (HA.out.srcAt w5 (hg5.block gv HA.out.gv_lt (fun e => HA.out.ne (by injection e))))
    clear hrow5 hg5 hov
    go_wp2_with ((with_reducible refine at_dst 82 ?_); go_must (refine wpList_copy_at rfl (.tmp 80) (.tmp 81) _ _ rfl 23 3 Try.underlying39 csn_size g (i * 3) (n + 1 - i) (c - i) ⟨gv, 0, none⟩ 1 1 1 (by rfl) (by rfl) HM2.out _ _ HR5.out (ovl x) rfl HSV.out HFIT2.out (ovl_one x) ?_); intro w6 hrow6 hg6; have HR6 := Lib.hid hrow6; have HG6 := Lib.hid hg6; clear hrow6 hg6)
    have HLI := Lib.hid (show (insAt l i x).length = n + 1 by rw [insAt_length l i x (by rw [← HNL.out]; omega), ← HNL.out])
    have HO : Own w6 base (.slice (some ⟨g, 0, none⟩) (n + 1) c) (insAt l i x) := by
      refine ⟨by rw [flat_length], .inr ⟨g, c, _, by rw [HLI.out], HBG.out, HR6.out, by rw [HLI.out]; exact c5, HA.out.small, ?_, ?_⟩⟩
      · rw [List.size_toArray, over_length _ _ _ HFIT2.out, over_length _ _ _ HFIT.out, HCS.out]
      · have h0 := over_back cur (i * 3) (ovl x) (flat (l.drop i)) (by have := HFIT.out; rw [ovl_length]; omega)
        rw [ovl_length, HLEN.out] at h0
        have h1 : cur.take (i * 3) = flat (l.take i) := by
          rw [flat_take, ← HA.out.reads, List.take_take, Nat.min_eq_left (by rw [← HNL.out]; omega)]
        rw [h1] at h0
        rw [flat_insAt, HLI.out, ← h0]
        rw [show (i + 1) * 3 = i * 3 + 3 by omega, show (n + 1) * 3 = i * 3 + 3 + (n - i) * 3 by omega]
    have HOO := Lib.hid HO
    clear HO
    go_ret
    exact ⟨some ⟨g, 0, none⟩, c, by rw [HLI.out]; rfl, by rw [HLI.out]; exact HOO.out, (Below.refl base w |>.grown (HG5.out.trans HG6.out) (by have := HBG.out; omega) (fun k hk => by injection hk with hk; have := HBG.out; omega))⟩
end Go.Proofs.Yteidbomkbddliaa.Csn
