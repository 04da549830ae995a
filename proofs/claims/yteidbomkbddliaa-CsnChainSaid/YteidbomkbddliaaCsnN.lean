/-
  The walks of layer 15: with.
-/
import Derived.Test.YteidbomkbddliaaCsnM
namespace Go.Proofs.Yteidbomkbddliaa.Csn
open Go.RowKit

theorem lb_lt (l : List C) (k : Int) : ∀ q, q < lb l k → cR l q < k := by
  induction l with
  | nil => intro q hq; simp [lb] at hq
  | cons x r ih =>
    intro q hq
    simp only [lb] at hq
    split at hq
    · rename_i h
      cases q with
      | zero => simpa [cR] using h
      | succ q => have := ih q (by omega); simpa [cR] using this
    · omega
theorem lb_ge (l : List C) (k : Int) (h : lb l k < l.length) : k ≤ cR l (lb l k) := by
  induction l with
  | nil => simp at h
  | cons x r ih =>
    simp only [lb] at h ⊢
    split at h
    · rename_i h1
      rw [if_pos h1]
      have := ih (by simpa using h)
      simpa [cR] using this
    · rename_i h1
      rw [if_neg h1]
      simp [cR]
      omega
theorem cAt_insAt (l : List C) (i : Nat) (x : C) (hi : i ≤ l.length) (j : Nat) : cAt (insAt l i x) j = if j < i then cAt l j else if j = i then x else cAt l (j - 1) := by
  unfold cAt insAt List.getD
  have hl : (l.take i).length = i := by simp; omega
  by_cases h1 : j < i
  · rw [if_pos h1, List.getElem?_append_left (by omega), List.getElem?_take, if_pos h1]
  · rw [if_neg h1, List.getElem?_append_right (by omega), hl]
    by_cases h2 : j = i
    · subst h2; simp
    · rw [if_neg h2]
      obtain ⟨d, rfl⟩ : ∃ d, j = i + d + 1 := ⟨j - i - 1, by omega⟩
      rw [show i + d + 1 - i = d + 1 by omega, show i + d + 1 - 1 = i + d by omega]
      simp
theorem cR_of (l : List C) (j : Nat) : cR l j = (cAt l j).2.2 := rfl
theorem asc_insAt {l : List C} {x : C} (ha : Asc l) (h : fnd l x.2.2 = false) : Asc (insAt l (lb l x.2.2) x) := by
  have hle := lb_le l x.2.2
  intro p q hpq hq
  rw [insAt_length _ _ _ hle] at hq
  rw [cR_of, cR_of, cAt_insAt _ _ _ hle, cAt_insAt _ _ _ hle]
  have hgt : ∀ q, lb l x.2.2 ≤ q → q < l.length → x.2.2 < cR l q := by
    intro q h1 h2
    have h3 := lb_ge l x.2.2 (by omega)
    have h4 : ¬ cR l (lb l x.2.2) = x.2.2 := fun e => by simp [fnd, e] at h; omega
    rcases Nat.lt_or_ge (lb l x.2.2) q with h5 | h5
    · have := ha _ q h5 h2; omega
    · have : q = lb l x.2.2 := by omega
      subst this; omega
  have hlt := lb_lt l x.2.2
  by_cases a1 : p < lb l x.2.2
  · rw [if_pos a1]
    by_cases b1 : q < lb l x.2.2
    · rw [if_pos b1]; exact ha p q hpq (by omega)
    · rw [if_neg b1]
      by_cases b2 : q = lb l x.2.2
      · rw [if_pos b2]; exact hlt p a1
      · rw [if_neg b2]
        have := hlt p a1
        have := hgt (q - 1) (by omega) (by omega)
        rw [cR_of] at *; omega
  · rw [if_neg a1, if_neg (show ¬ q < lb l x.2.2 by omega), if_neg (show ¬ q = lb l x.2.2 by omega)]
    by_cases a2 : p = lb l x.2.2
    · rw [if_pos a2]; exact hgt (q - 1) (by omega) (by omega)
    · rw [if_neg a2]; exact ha (p - 1) (q - 1) (by omega) (by omega)
theorem cAt_set (l : List C) (i : Nat) (x : C) (hi : i < l.length) (j : Nat) : cAt (l.set i x) j = if j = i then x else cAt l j := by
  unfold cAt
  by_cases h : j = i
  · subst h; simp [List.getD, hi]
  · rw [if_neg h]; simp [List.getD, List.getElem?_set_ne (Ne.symm h)]
theorem asc_set {l : List C} {x : C} {i : Nat} (ha : Asc l) (hi : i < l.length) (h : cR l i = x.2.2) : Asc (l.set i x) := by
  have e : ∀ j, cR (l.set i x) j = cR l j := fun j => by
    rw [cR_of, cAt_set _ _ _ hi]
    by_cases h1 : j = i
    · rw [if_pos h1, h1, h]
    · rw [if_neg h1, cR_of]
  intro p q hpq hq
  rw [e, e]
  exact ha p q hpq (by simpa using hq)
theorem asc_insC {l : List C} {x : C} (ha : Asc l) : Asc (insC l x) := by
  unfold insC
  cases h : fnd l x.2.2 with
  | true =>
    have h2 : lb l x.2.2 < l.length ∧ cR l (lb l x.2.2) = x.2.2 := by simpa [fnd] using h
    simp only [if_true]
    split
    · exact asc_set ha h2.1 h2.2
    · exact ha
  | false => simpa using asc_insAt ha h

/-- What with's loop holds. -/
def WithRel (w : World) (a b : List C) (k : Nat) (v : Value) (wr : World) : Prop :=
  ∃ A c acc, v = .slice A acc.length c ∧ Own wr w.heap.size (.slice A acc.length c) acc ∧ Asc acc ∧ (b.drop k).foldl insC acc = b.foldl insC a ∧ acc.length ≤ a.length + k ∧ Below w.heap.size w wr

set_option maxRecDepth 100000 in
set_option maxHeartbeats 4000000 in
theorem with_any (w : World) (A A2 : Option Addr) (n c m d : Nat) (a b : List C) (ha : Sl w A n c a) (hb : Sl w A2 m d b) (hn : n ≤ 50) (hm : m ≤ 50) (hasc : Asc a) :
    Calls Try.prog 46 #[.slice A n c, .slice A2 m d] w (IsOwn w w.heap.size (b.foldl insC a)) := by
  have HA := Lib.hid ha
  have HB := Lib.hid hb
  have HASC := Lib.hid hasc
  clear ha hb hasc
  go_enter Try.func46, Try.ntmps46
  go_wp2_with fail
  refine (clone_any w A n c a HA.out (by omega)).mono ?_
  rintro e w2 ⟨A1, c1, rfl, hO, hb2⟩
  have HO := Lib.hid hO
  have HB2 := Lib.hid hb2
  clear hO hb2
  go_wp2
  go_loopw [5, 7, 8, 9, 14] (fun v _ _ _ i wr => ∃ k : Nat, i = .int .i64 k ∧ k ≤ m ∧ WithRel w a b k v wr) (fun _ _ _ _ i _ => m - (intOf i).toNat)
  case atStart => exact ⟨0, rfl, Nat.zero_le _, A1, c1, a, rfl, HO.out, HASC.out, rfl, by omega, HB2.out⟩
  case round =>
    obtain ⟨k, rfl, hk, A3, c3, acc, rfl, hO, hac, hfold, hlen, hb3⟩ := hrel
    have HO3 := Lib.hid hO
    have HAC := Lib.hid hac
    have HFO := Lib.hid hfold
    have hsz := hb3.size
    have HB3 := Lib.hid hb3
    have hla : a.length = n := HA.out.1
    have hlacc : acc.length ≤ 100 := by omega
    have HLA := Lib.hid hla
    have HLEN := Lib.hid hlen
    clear hO hac hfold hla hlen
    by_cases hlt : k < m
    · have hslr := HB.out.below hb3
      obtain ⟨b0, off, rfl, hbl, hc⟩ := hslr.2.2 (by omega)
      obtain ⟨e0, e1, e2⟩ := hc k hlt
      have HLB := Lib.hid HB.out.1
      clear hc hslr hb3
      go_upto_region 5 with fail
      go_cut [8, 9, 7] (fun s8 s9 s7 wx => s7 = .pointer (some ⟨wr.heap.size, 0, none⟩) ∧ s8 = .int .i64 (lb acc (cR b k)) ∧ s9 = .bool (fnd acc (cR b k)) ∧ Below wr.heap.size wr wx ∧ wr.heap.size < wx.heap.size ∧
        wx.cell? ⟨wr.heap.size, 0, none⟩ = some (.int .i64 (cT b k)) ∧ wx.cell? ⟨wr.heap.size, 1, none⟩ = some (.int .i64 (cS b k)) ∧ wx.cell? ⟨wr.heap.size, 2, none⟩ = some (.int .i64 (cR b k)))
      case first =>
        have HSE := Lib.hid (search_any (wr.alloc (.cells #[.int .i64 (cT b k), .int .i64 (cS b k), .int .i64 (cR b k)] 23)) A3 acc.length c3 acc (cT b k) (cS b k) (cR b k) ((HO3.out.sl).1.below ((Below.refl _ _).alloc (Nat.le_refl _) _)) (by omega) HAC.out)
        go_wp2_with (go_at_call 54; refine HSE.out.mono ?_; rintro e w4 ⟨rfl, hb4⟩)
        go_meet
        exact ⟨rfl, rfl, rfl, ((Below.refl _ _).alloc (Nat.le_refl _) _).trans (hb4.mono (by simp)), by have := hb4.size; simp at this; omega, by rw [bkeep hb4 (by simp)]; simp [go_sem], by rw [bkeep hb4 (by simp)]; simp [go_sem], by rw [bkeep hb4 (by simp)]; simp [go_sem]⟩
      case rest =>
        obtain ⟨rfl, rfl, rfl, hb4, hz4, z0, z1, z2⟩ := hcut
        obtain ⟨w4, rfl⟩ : ∃ x : World, x = wc := ⟨_, rfl⟩
        have HO4 := Lib.hid (HO3.out.below hb4)
        have HB4 := Lib.hid (HB3.out.trans (hb4.mono hsz))
        have hsz4 := HB4.out.size
        have HDR := Lib.hid (show (b.drop k).foldl insC acc = (b.drop (k + 1)).foldl insC (insC acc (cT b k, cS b k, cR b k)) by
          rw [List.drop_eq_getElem_cons (by rw [HLB.out]; exact hlt), List.foldl_cons]
          congr 2
          have hl : k < b.length := by rw [HLB.out]; exact hlt
          simp [cT, cS, cR, List.getD, List.getElem?_eq_getElem hl])
        have HAS := Lib.hid (asc_insC (x := (cT b k, cS b k, cR b k)) HAC.out)
        have HIL := Lib.hid (insC_length acc (cT b k, cS b k, cR b k))
        have HLE := Lib.hid (lb_le acc (cR b k))
        clear hb4
        cases hf : fnd acc (cR b k) with
        | false =>
          have HI := Lib.hid (show insC acc (cT b k, cS b k, cR b k) = insAt acc (lb acc (cR b k)) (cT b k, cS b k, cR b k) by simp [insC, hf])
          have HF := Lib.hid hf
          have hne : A3 ≠ some ⟨w4.heap.size, 0, none⟩ := fun e => by
            have := World.ownsRow.lt HO4.out w4.heap.size (by rw [e]; rfl)
            omega
          have HINS := Lib.hid (insert_any (w4.alloc (.cells #[.int .i64 (cT b k), .int .i64 (cS b k), .int .i64 (cR b k)] 23)) w.heap.size c3 w4.heap.size (lb acc (cR b k)) A3 acc (cT b k, cS b k, cR b k) (World.ownsRow.alloc HO4.out _) (by simp; omega) hlacc HLE.out (heap_alloc_new w4 _) hne)
          clear hf hne
          go_wp2_with fail
          refine HINS.out.mono ?_
          rintro e w5 ⟨A5, c5, rfl, hO5, hb5⟩
          have HO5 := Lib.hid hO5
          have HB5 := Lib.hid (HB4.out.trans (((Below.refl _ _).alloc hsz4 _).trans hb5))
          clear hO5 hb5
          go_wp2
          go_roundw
          case rel => exact ⟨k + 1, by go_num, by omega, A5, c5, insAt acc (lb acc (cR b k)) (cT b k, cS b k, cR b k), rfl, HO5.out, by rw [← HI.out]; exact HAS.out, by rw [← HI.out, ← HDR.out]; exact HFO.out, by have h1 := HIL.out; have h2 := HLEN.out; rw [HI.out] at h1; omega, HB5.out⟩
          case measure => simp [intOf]; omega
        | true =>
          have hfd : lb acc (cR b k) < acc.length ∧ cR acc (lb acc (cR b k)) = cR b k := by simpa [fnd] using hf
          have HFD := Lib.hid hfd
          have hlb := hfd.1
          rcases HO4.out.2 with ⟨hA, h0⟩ | ⟨g, cap, cur, hA, hg, hh, hnc, hcm, hcs, ht⟩
          · omega
          injection hA with e1 e2 e3
          subst e1
          subst e3
          obtain ⟨bq, oq, hq, hql, hqc⟩ := HO4.out.sl.1.2.2 (by omega)
          injection hq with hq
          injection hq with hq1 hq2
          subst hq1
          subst hq2
          obtain ⟨d0, d1, d2⟩ := hqc _ hlb
          simp only [Nat.zero_add] at d0 d1 d2
          have HHH := Lib.hid hh
          have HF := Lib.hid hf
          clear hh hqc hf hfd hcs ht hnc
          go_upto_region 8 with fail
          go_cut [32] (fun s32 wx => s32 = .bool (decide (cmpC (cT acc (lb acc (cR b k))) (cS acc (lb acc (cR b k))) (cR acc (lb acc (cR b k))) (cT b k) (cS b k) (cR b k) < 0)) ∧ Below w4.heap.size w4 wx)
          case first =>
            go_wp2_with fail
            go_region_held3 (fun w' => w'.cell? ⟨g, lb acc (cR b k) * 3, none⟩ = some (.int .i64 (cT acc (lb acc (cR b k)))) ∧ w'.cell? ⟨g, lb acc (cR b k) * 3 + 1, none⟩ = some (.int .i64 (cS acc (lb acc (cR b k)))) ∧ w'.cell? ⟨g, lb acc (cR b k) * 3 + 2, none⟩ = some (.int .i64 (cR acc (lb acc (cR b k)))) ∧ w'.cell? ⟨wr.heap.size, 0, none⟩ = some (.int .i64 (cT b k)) ∧ w'.cell? ⟨wr.heap.size, 1, none⟩ = some (.int .i64 (cS b k)) ∧ w'.cell? ⟨wr.heap.size, 2, none⟩ = some (.int .i64 (cR b k))) (simp [go_sem, *])
              ((go_at_call 11; refine (compare_any _ _ _ _ _ _ _).mono ?_; rintro e w5 ⟨rfl, hb5⟩; have q3 := bkeep hb5 hql; have q4 := bkeep hb5 hz4))
            go_wp2
            go_meet
            exact ⟨rfl, (Below.refl _ _).drew.trans hb5⟩
          case rest =>
            obtain ⟨rfl, hb5⟩ := hcut
            obtain ⟨w5, rfl⟩ : ∃ x : World, x = wc := ⟨_, rfl⟩
            have HO5 := Lib.hid (HO4.out.below hb5)
            have HB5 := Lib.hid (HB4.out.trans (hb5.mono hsz4))
            have hsz5 := HB5.out.size
            have q0 := (bkeep hb5 hz4 0).trans z0
            have q1 := (bkeep hb5 hz4 1).trans z1
            have q2 := (bkeep hb5 hz4 2).trans z2
            have r0 := (bkeep hb5 hql _).trans d0
            have r1 := (bkeep hb5 hql _).trans d1
            have r2 := (bkeep hb5 hql _).trans d2
            have hqa : acc.length ≤ c3 := HO5.out.sl.1.2.1
            have f0 := (World.ownsRow.frozenAt HO5.out (lb acc (cR b k) * 3))
            have f1 := (World.ownsRow.frozenAt HO5.out (lb acc (cR b k) * 3 + 1))
            have f2 := (World.ownsRow.frozenAt HO5.out (lb acc (cR b k) * 3 + 2))
            have HGB := Lib.hid hg
            clear hb5 d0 d1 d2 z0 z1 z2 hg
            cases hcm2 : decide (cmpC (cT acc (lb acc (cR b k))) (cS acc (lb acc (cR b k))) (cR acc (lb acc (cR b k))) (cT b k) (cS b k) (cR b k) < 0) with
            | true =>
              have HI := Lib.hid (show insC acc (cT b k, cS b k, cR b k) = acc.set (lb acc (cR b k)) (cT b k, cS b k, cR b k) by
                have h1 := of_decide_eq_true hcm2
                unfold insC
                rw [if_pos HF.out, if_pos h1])
              have HS := Lib.hid (Own.store3 (i := lb acc (cR b k)) (cT b k, cS b k, cR b k) rfl HO5.out)
              clear hcm2
              go_wp2
              go_roundw
              case rel => exact ⟨k + 1, by go_num, by omega, some ⟨g, 0, none⟩, c3, acc.set (lb acc (cR b k)) (cT b k, cS b k, cR b k), by rw [List.length_set], by rw [List.length_set]; exact HS.out, by rw [← HI.out]; exact HAS.out, by rw [← HI.out, ← HDR.out]; exact HFO.out, by rw [List.length_set]; have := HLEN.out; omega, ((HB5.out.setCell HGB.out _).setCell HGB.out _).setCell HGB.out _⟩
              case measure => simp [intOf]; omega
            | false =>
              have HI := Lib.hid (show insC acc (cT b k, cS b k, cR b k) = acc by
                have h1 := of_decide_eq_false hcm2
                unfold insC
                rw [if_pos HF.out, if_neg h1])
              clear hcm2
              go_wp2
              go_roundw
              case rel => exact ⟨k + 1, by go_num, by omega, some ⟨g, 0, none⟩, c3, acc, rfl, HO5.out, HAC.out, by rw [← HFO.out, HDR.out, HI.out], by have := HLEN.out; omega, HB5.out⟩
              case measure => simp [intOf]; omega
    · have HE := Lib.hid (show acc = b.foldl insC a by rw [← HFO.out, List.drop_of_length_le (by rw [HB.out.1]; omega)]; rfl)
      clear hb3
      go_wp2
      go_ret
      exact ⟨A3, c3, by rw [← HE.out]; rfl, by rw [← HE.out]; exact HO3.out, HB3.out⟩
end Go.Proofs.Yteidbomkbddliaa.Csn
