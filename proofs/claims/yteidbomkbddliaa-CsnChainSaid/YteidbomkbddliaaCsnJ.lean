/-
  The walks of layer 15: slices.Insert at change sequence numbers.
-/
import Derived.Test.YteidbomkbddliaaCsnI
import Derived.Lib.Overlaps
namespace Go.Proofs.Yteidbomkbddliaa.Csn
open Go.RowKit

def ovl (c : C) : List Value := [.int .i64 c.1, .int .i64 c.2.1, .int .i64 c.2.2]
/-- Insertion at a place. -/
def insAt (l : List C) (i : Nat) (x : C) : List C := l.take i ++ x :: l.drop i
theorem insAt_length (l : List C) (i : Nat) (x : C) (h : i ≤ l.length) : (insAt l i x).length = l.length + 1 := by simp [insAt]; omega
theorem insAt_end (l : List C) (x : C) : insAt l l.length x = l ++ [x] := by simp [insAt]

theorem overlaps_no (w : World) (gv g off la lb ca cb : Nat) (hne : gv ≠ g) (vs cur : Array Value) (hv : w.heap[gv]? = some (.cells vs 23 (0, 0))) (hg : w.heap[g]? = some (.cells cur 23 (0, 0))) (hcur : cur.size ≠ 0) :
    (callFunc 58 #[.slice (some ⟨gv, 0, none⟩) la ca, .slice (some ⟨g, off, none⟩) lb cb]).run Try.prog w = .ok (.value (.bool false)) w := by
  rw [run_callFunc_extern Try.func58 (by kernel_rfl) (by kernel_rfl) (by kernel_rfl) (e := Extern.SlicesOverlaps.overlaps #[39, 39] #[4]) (by kernel_rfl),
    Lib.run_overlaps_apart w 39 4 23 Try.underlying39 3 Try.sizeOf23 ⟨gv, 0, none⟩ ⟨g, off, none⟩ la ca lb cb hne 23 23 vs.size cur.size
      (by simp [World.shape?, hv]) (by simp [World.shape?, hg]) hcur (by simp [World.frozen?, hv]) (by simp [World.frozen?, hv])]
  rfl

/-- What Insert is handed: the row, and the block of the one number. -/
structure InsArgs (w : World) (base g c gv : Nat) (l : List C) (x : C) (cur : List Value) : Prop where
  hb : base ≤ g
  row : w.heap[g]? = some (.cells cur.toArray 23 (0, 0))
  fits : l.length ≤ c
  small : c ≤ maxLen
  size : cur.length = c * 3
  reads : cur.take (l.length * 3) = flat l
  val : w.heap[gv]? = some (.cells (ovl x).toArray 23 (0, 0))
  ne : gv ≠ g

theorem InsArgs.own {w : World} {base g c gv : Nat} {l : List C} {x : C} {cur : List Value} (h : InsArgs w base g c gv l x cur) : Own w base (.slice (some ⟨g, 0, none⟩) l.length c) l :=
  ⟨flat_length l, .inr ⟨g, c, cur.toArray, rfl, h.hb, h.row, h.fits, h.small, by simpa using h.size, by simpa using h.reads⟩⟩
theorem InsArgs.src {w : World} {base g c gv : Nat} {l : List C} {x : C} {cur : List Value} (h : InsArgs w base g c gv l x cur) : ∀ j u, (ovl x)[j]? = some u → w.cell? ((⟨gv, 0, none⟩ : Addr).add j) = some u := fun j u hu => by
  have hadd : (⟨gv, 0, none⟩ : Addr).add j = ⟨gv, j, none⟩ := by unfold Addr.add; split <;> simp_all
  rw [hadd]
  have := h.val
  simp [World.cell?, this]
  exact hu
theorem ovl_one (x : C) : ∀ u ∈ ovl x, u.oneCell' = true := by
  intro u hu
  simp [ovl] at hu
  rcases hu with rfl | rfl | rfl <;> rfl

set_option maxHeartbeats 2000000 in
/-- Insert at the end. -/
theorem insert_end (w : World) (base g c gv : Nat) (l : List C) (x : C) (cur : List Value) (h : InsArgs w base g c gv l x cur) (hw : base ≤ w.heap.size) (hn : l.length ≤ 100) :
    Calls Try.prog 56 #[.slice (some ⟨g, 0, none⟩) l.length c, .int .i64 (l.length : Int), .slice (some ⟨gv, 0, none⟩) 1 1] w (IsOwn w base (insAt l l.length x)) := by
  obtain ⟨i0, hi, hz0, hz1, hz2⟩ := info_parts csn_info
  have HO := Lib.hid h.own
  have HS := Lib.hid h.src
  have HX := Lib.hid (ovl_one x)
  have hfits := h.fits
  have HB := Lib.hid h.hb
  obtain ⟨n, hnl⟩ : ∃ n, n = l.length := ⟨_, rfl⟩
  rw [← hnl] at hn hfits ⊢
  have HNL := Lib.hid hnl
  clear h hnl
  have HO' : Hid (w.ownsRow base 23 3 (.slice (some ⟨g, 0, none⟩) n c) n (flat l)) := by
    have h0 := HO.out
    rw [Own, ← HNL.out] at h0
    exact h0
  clear HO
  have HO := HO'
  clear HO'
  by_cases hcn : c = n
  · go_enter Try.func56, Try.ntmps56
    go_wp2_with (at_builtin; refine wpList_append_own_at _ rfl (.tmp 23) (.tmp 24) _ rfl base 23 i0 _ 3 24 Try.underlying39 hi hz0 hz1 hz2 rfl (by decide) (.slice (some ⟨g, 0, none⟩) n c) n (flat l) rfl HO.out ⟨gv, 0, none⟩ 1 1 (ovl x) rfl rfl HS.out HX.out (by simp only [maxLen]; omega) (by omega) hw ?_; intro v' w1 hown1 hgrow hnil hat)
    have hO : Own w1 base v' (insAt l n x) := by
      have e : flat (insAt l n x) = flat l ++ ovl x := by rw [HNL.out, insAt_end, flat_append]; rfl
      rw [Own, e, insAt_length _ _ _ (by rw [HNL.out]; exact Nat.le_refl _), ← HNL.out]
      exact hown1
    obtain ⟨A', c', rfl⟩ := hO.form
    go_wp2
    go_ret
    exact ⟨A', c', rfl, hO, (Below.refl _ _).grown hgrow hw (fun k hk => by simp [Value.ownBlock] at hk; have := HB.out; omega)⟩

  · go_enter Try.func56, Try.ntmps56
    go_wp2_with (at_builtin; refine wpList_append_own_at _ rfl (.tmp 23) (.tmp 24) _ rfl base 23 i0 _ 3 24 Try.underlying39 hi hz0 hz1 hz2 rfl (by decide) (.slice (some ⟨g, 0, none⟩) n c) n (flat l) rfl HO.out ⟨gv, 0, none⟩ 1 1 (ovl x) rfl rfl HS.out HX.out (by simp only [maxLen]; omega) (by omega) hw ?_; intro v' w1 hown1 hgrow hnil hat)
    have hO : Own w1 base v' (insAt l n x) := by
      have e : flat (insAt l n x) = flat l ++ ovl x := by rw [HNL.out, insAt_end, flat_append]; rfl
      rw [Own, e, insAt_length _ _ _ (by rw [HNL.out]; exact Nat.le_refl _), ← HNL.out]
      exact hown1
    obtain ⟨A', c', rfl⟩ := hO.form
    go_wp2
    go_ret
    exact ⟨A', c', rfl, hO, (Below.refl _ _).grown hgrow hw (fun k hk => by simp [Value.ownBlock] at hk; have := HB.out; omega)⟩


theorem InsArgs.tail {w : World} {base g c gv : Nat} {l : List C} {x : C} {cur : List Value} (h : InsArgs w base g c gv l x cur) (i : Nat) (w' : World) (hw' : w'.heap[g]? = w.heap[g]?) :
    ∀ j u, (flat (l.drop i))[j]? = some u → w'.cell? ((⟨g, i * 3, none⟩ : Addr).add j) = some u := fun j u hu => by
  have hadd : (⟨g, i * 3, none⟩ : Addr).add j = ⟨g, i * 3 + j, none⟩ := by unfold Addr.add; split <;> simp_all
  rw [hadd]
  rw [flat_drop, List.getElem?_drop, ← h.reads] at hu
  have hj : i * 3 + j < l.length * 3 := by
    rcases Nat.lt_or_ge (i * 3 + j) (l.length * 3) with h1 | h1
    · exact h1
    · rw [List.getElem?_eq_none (by rw [List.length_take]; omega)] at hu; cases hu
  rw [List.getElem?_take, if_pos hj] at hu
  simp [World.cell?, hw', h.row]
  exact hu
theorem InsArgs.srcAt {w : World} {base g c gv : Nat} {l : List C} {x : C} {cur : List Value} (h : InsArgs w base g c gv l x cur) (w' : World) (hw' : w'.heap[gv]? = w.heap[gv]?) : ∀ j u, (ovl x)[j]? = some u → w'.cell? ((⟨gv, 0, none⟩ : Addr).add j) = some u := fun j u hu => by
  have hadd : (⟨gv, 0, none⟩ : Addr).add j = ⟨gv, j, none⟩ := by unfold Addr.add; split <;> simp_all
  rw [hadd]
  have := h.val
  rw [← hw'] at this
  simp [World.cell?, this]
  exact hu
theorem InsArgs.gv_lt {w : World} {base g c gv : Nat} {l : List C} {x : C} {cur : List Value} (h : InsArgs w base g c gv l x cur) : gv < w.heap.size := (Array.getElem?_eq_some_iff.1 h.val).1
theorem ovl_length (x : C) : (ovl x).length = 3 := rfl
theorem InsArgs.head {w : World} {base g c gv : Nat} {l : List C} {x : C} {cur : List Value} (h : InsArgs w base g c gv l x cur) (i : Nat) :
    ∀ j u, (flat (l.take i))[j]? = some u → w.cell? ((⟨g, 0, none⟩ : Addr).add j) = some u := fun j u hu => by
  have hadd : (⟨g, 0, none⟩ : Addr).add j = ⟨g, j, none⟩ := by unfold Addr.add; split <;> simp_all
  rw [hadd]
  rw [flat_take, ← h.reads, List.take_take] at hu
  have hc : cur[j]? = some u := by
    rw [List.getElem?_take] at hu
    split at hu
    · exact hu
    · cases hu
  simp [World.cell?, h.row, hc]
theorem flat_insAt (l : List C) (i : Nat) (x : C) : flat (insAt l i x) = flat (l.take i) ++ (ovl x ++ flat (l.drop i)) := by rw [insAt, flat_append]; rfl
theorem zi_eq (n i : Nat) (h : i ≤ n) : ((n : Int) + 1 - (i : Int)) = ((n + 1 - i : Nat) : Int) := by omega

set_option maxRecDepth 100000 in
set_option maxHeartbeats 4000000 in
/-- Insert ahead of the end, no room. -/
theorem insert_grow (w : World) (base g c gv i : Nat) (l : List C) (x : C) (cur : List Value) (h : InsArgs w base g c gv l x cur) (hw : base ≤ w.heap.size) (hgw : g < w.heap.size) (hn : l.length ≤ 100) (hil : i < l.length) (hc : c = l.length) :
    Calls Try.prog 56 #[.slice (some ⟨g, 0, none⟩) l.length c, .int .i64 (i : Int), .slice (some ⟨gv, 0, none⟩) 1 1] w (IsOwn w base (insAt l i x)) := by
  obtain ⟨i0, hi, hz0, hz1, hz2⟩ := info_parts csn_info
  subst hc
  have HA := Lib.hid h
  have HLH := Lib.hid (flat_length (l.take i))
  obtain ⟨n, hnl⟩ : ∃ n, n = l.length := ⟨_, rfl⟩
  rw [← hnl] at hn hil ⊢
  have HNL := Lib.hid hnl
  obtain ⟨z, hz⟩ : ∃ z, z = n + 1 - i := ⟨_, rfl⟩
  have hzi := zi_eq n i (by omega)
  rw [← hz] at hzi
  have hiz : i + z = n + 1 := by omega
  have hz2' : 2 ≤ z := by omega
  have HZ := Lib.hid hz
  clear h hnl hz
  go_enter Try.func56, Try.ntmps56
  have hf1 : 0 < z * 3 := by omega
  have hf2 : (flat (l.take i)).length = i * 3 := by rw [HLH.out, List.length_take, ← HNL.out]; omega
  have hf3 : n < i + z := by omega
  have hf4 : i + z ≤ 1000000 := by omega
  have HF1 := Lib.hid hf1
  have HF2 := Lib.hid hf2
  have HF3 := Lib.hid hf3
  have HF4 := Lib.hid hf4
  clear hf1 hf2 hf3 hf4
  go_upto_region 9 with fail
  go_cut [9] (fun s9 wx => ∃ (cap : Nat) (L : List Value), s9 = .slice (some ⟨w.heap.size, 0, none⟩) (n + 1) cap ∧ n + 1 ≤ cap ∧ cap ≤ maxLen ∧ Hid (L.length = cap * 3) ∧ Hid (L.take (i * 3) = flat (l.take i)) ∧ wx.heap[w.heap.size]? = some (.cells L.toArray 23 (0, 0)) ∧ Below w.heap.size w wx)
  case first =>
    go_wp2_with (at_builtin; refine wpList_append_zeros rfl (.tmp 34) (.tmp 39) _ _ rfl 23 i0 _ 3 24 Try.underlying39 Try.underlying3 hi hz0 hz1 hz2 rfl ⟨g, 0, none⟩ i n z rfl rfl HF1.out (flat (l.take i)) HF2.out (HA.out.head i) HF3.out HF4.out (by decide) ?_; intro cap L w1 hcap hcapm hLl hLt hrow hgrow; have HLL := Lib.hid hLl; have HLT := Lib.hid hLt; have HR := Lib.hid hrow; clear hLl hLt hrow)
    go_meet
    exact ⟨cap, L, rfl, by omega, hcapm, HLL.out, HLT.out, HR.out, (Below.refl _ _).grown hgrow (Nat.le_refl _) (fun k hk => by cases hk)⟩
  case rest =>
    obtain ⟨cap, L, rfl, hcap, hcapm, HLL, HLT, hrow, hb⟩ := hcut
    obtain ⟨w1, rfl⟩ : ∃ x : World, x = wc := ⟨_, rfl⟩
    have HB1 := Lib.hid hb
    have HR1 := Lib.hid hrow
    have HW1 := Lib.hid (hb.block gv HA.out.gv_lt)
    have hci : ¬ cap = i := by omega
    have hci2 : i ≤ cap := by omega
    have hci3 : i + 1 ≤ cap := by omega
    have hci4 : ¬ cap = i + 1 := by omega
    have HM := Lib.hid (Nat.min_eq_left (show 1 ≤ n + 1 - i by omega))
    have HFIT := Lib.hid (show i * 3 + (ovl x).length ≤ L.length by rw [ovl_length, HLL.out]; omega)
    clear hb hrow hiz
    go_upto_region 10 with fail
    go_cut [] (fun wx => wx.heap[w.heap.size]? = some (.cells (over L (i * 3) (ovl x)).toArray 23 (0, 0)) ∧ Below w.heap.size w wx)
    case first =>
      go_wp2_with ((with_reducible refine at_dst 45 ?_); refine wpList_copy_at rfl (.tmp 43) (.tmp 44) _ _ rfl 23 3 Try.underlying39 csn_size w.heap.size (i * 3) (n + 1 - i) (cap - i) ⟨gv, 0, none⟩ 1 1 1 rfl rfl HM.out L _ HR1.out (ovl x) rfl (HA.out.srcAt w1 HW1.out) HFIT.out (ovl_one x) ?_; intro w2 hrow2 hg2; have HR2 := Lib.hid hrow2; have HG2 := Lib.hid hg2; clear hrow2 hg2)
      go_meet
      exact ⟨HR2.out, HB1.out.grown HG2.out HB1.out.size (fun k hk => by injection hk with hk; omega)⟩
    case rest =>
      obtain ⟨hrow2, hb2⟩ := hcut
      obtain ⟨w2, rfl⟩ : ∃ x : World, x = wc := ⟨_, rfl⟩
      have HB2 := Lib.hid hb2
      have HR2 := Lib.hid hrow2
      have HW2 := Lib.hid (hb2.block g hgw)
      have HTL := Lib.hid (HA.out.tail i w2 HW2.out)
      clear hb2 hrow2
      have HM2 := Lib.hid (show Nat.min (n - i) (n - i) = n - i from Nat.min_self _)
      have hlen : (flat (l.drop i)).length = (n - i) * 3 := by rw [flat_length, List.length_drop, ← HNL.out]
      have HLEN := Lib.hid hlen
      have HFIT2 := Lib.hid (show (i + 1) * 3 + (flat (l.drop i)).length ≤ (over L (i * 3) (ovl x)).length by rw [over_length _ _ _ HFIT.out, hlen, HLL.out]; omega)
      have HFO := Lib.hid (flat_one (l.drop i))
      have w1 : IntKind.i64.wrap ((i : Int) + 1) = (i : Int) + 1 := IntWalk.i64_in _ (by omega)
      have w2' : (0 : Int) ≤ (i : Int) + 1 := by omega
      have w3 : ((i : Int) + 1).toNat = i + 1 := by omega
      have w4 : (i : Int) + 1 ≤ (n : Int) + 1 := by omega
      have hni : ¬ n = i := by omega
      have hin : i ≤ n := by omega
      clear hlen
      go_upto_region 11 with fail
      go_cut [] (fun wx => wx.heap[w.heap.size]? = some (.cells (over (over L (i * 3) (ovl x)) ((i + 1) * 3) (flat (l.drop i))).toArray 23 (0, 0)) ∧ Below w.heap.size w wx)
      case first =>
        go_still_tail 8, (by kernel_rfl)
        go_wp2_with ((with_reducible refine at_dst 54 ?_); go_must (refine wpList_copy_at rfl (.tmp 50) (.tmp 53) _ _ rfl 23 3 Try.underlying39 csn_size w.heap.size ((i + 1) * 3) (n - i) (cap - (i + 1)) ⟨g, i * 3, none⟩ (n - i) (n - i) (n - i) (by rfl) (by rfl) HM2.out (over L (i * 3) (ovl x)) _ HR2.out (flat (l.drop i)) HLEN.out HTL.out HFIT2.out HFO.out ?_); intro w3 hrow3 hg3; have HR3 := Lib.hid hrow3; have HG3 := Lib.hid hg3; clear hrow3 hg3)
        go_meet
        exact ⟨HR3.out, HB2.out.drew.grown HG3.out HB2.out.size (fun k hk => by injection hk with hk; omega)⟩
      case rest =>
        obtain ⟨hrow3, hb3⟩ := hcut
        obtain ⟨w3', rfl⟩ : ∃ x : World, x = wc := ⟨_, rfl⟩
        have HO : Own w3' base (.slice (some ⟨w.heap.size, 0, none⟩) (n + 1) cap) (insAt l i x) := by
          have hlen := insAt_length l i x (by rw [← HNL.out]; omega)
          rw [← HNL.out] at hlen
          refine ⟨by rw [flat_length], .inr ⟨w.heap.size, cap, _, by rw [hlen], hw, hrow3, by rw [hlen]; exact hcap, hcapm, ?_, ?_⟩⟩
          · rw [List.size_toArray, over_length _ _ _ HFIT2.out, over_length _ _ _ HFIT.out, HLL.out]
          · have h0 := over_over L (i * 3) (ovl x) (flat (l.drop i)) (by have := HFIT2.out; rw [over_length _ _ _ HFIT.out] at this; rw [ovl_length]; omega)
            rw [ovl_length, HLEN.out] at h0
            rw [flat_insAt, hlen, ← HLT.out, ← h0]
            rw [show (i + 1) * 3 = i * 3 + 3 by omega, show (n + 1) * 3 = i * 3 + 3 + (n - i) * 3 by omega]
        have HOO := Lib.hid HO
        have HLI := Lib.hid (show (insAt l i x).length = n + 1 by rw [insAt_length l i x (by rw [← HNL.out]; omega), ← HNL.out])
        have HB3 := Lib.hid (hb3.mono hw)
        clear HO hrow3 hb3
        go_wp2
        go_ret
        exact ⟨some ⟨w.heap.size, 0, none⟩, cap, by rw [HLI.out]; rfl, by rw [HLI.out]; exact HOO.out, HB3.out⟩
end Go.Proofs.Yteidbomkbddliaa.Csn
