/-
  The walk of the reference's Join; the small functions of the laws.
-/
import Derived.Test.YteidbomkbddliaaCsnR
namespace Go.Proofs.Yteidbomkbddliaa.Csn
open Go.RowKit

theorem foldl_noteC_length (b : List C) : ∀ a : List C, (b.foldl noteC a).length ≤ a.length + b.length := by
  induction b with
  | nil => intro a; simp
  | cons x r ih => intro a; have := ih (noteC a x); have := noteC_length a x; simp only [List.foldl_cons, List.length_cons]; omega

/-- What the reference's Join holds in its loop. -/
def RjRel (w0 : World) (a b : List C) (k : Nat) (v : Value) (wr : World) : Prop :=
  ∃ A n c acc, v = .slice A n c ∧ Sl wr A n c acc ∧ ((vec b).drop k).foldl noteC acc = joinC a b ∧ acc.length ≤ (vec a).length + k ∧ Below w0.heap.size w0 wr

set_option maxRecDepth 100000 in
set_option maxHeartbeats 4000000 in
theorem rjoin_any (w : World) (A A2 : Option Addr) (n c m d : Nat) (a b : List C) (ha : Sl w A n c a) (hb : Sl w A2 m d b) (hn : n ≤ 24) (hm : m ≤ 24) :
    Calls Try.prog 33 #[.slice A n c, .slice A2 m d] w (IsSl w (n + m) (joinC a b)) := by
  have HA := Lib.hid ha
  have HB := Lib.hid hb
  have HLA := Lib.hid ha.1
  have HLB := Lib.hid hb.1
  clear ha hb
  go_enter Try.func33, Try.ntmps33
  go_wp2_with fail
  refine (rvector_any _ _ _ _ _ (HA.out.below ((Below.refl _ _).alloc (Nat.le_refl _) _)) (by omega)).mono ?_
  rintro e w1 ⟨A1, n1, c1, rfl, hs1, hn1, hb1⟩
  have HS1 := Lib.hid hs1
  have HE := Lib.hid (Own.below (own_empty w w.heap.size (Nat.le_refl _)) hb1)
  have HB1 := Lib.hid (((Below.refl w.heap.size w).alloc (Nat.le_refl _) (.cells #[] 23)).trans (hb1.mono (by simp)))
  have hz1 : w.heap.size ≤ w1.heap.size := HB1.out.size
  clear hs1 hb1
  go_upto_region 2 with ((with_reducible refine at_dst 11 ?_); refine wpList_app' rfl (.tmp 8) (.tmp 10) rfl w.heap.size 0 (some ⟨w.heap.size, 0, none⟩) [] rfl HE.out A1 n1 c1 (vec a) rfl HS1.out (by simp; omega) hz1 ?_; intro A6 c6 w6 hO6 hg6; have HO6 := Lib.hid hO6; have HG6 := Lib.hid hg6; clear hO6 hg6)
  have HB6 := Lib.hid (HB1.out.grown HG6.out hz1 (fun q hq => by simp [Value.ownBlock] at hq; omega))
  have HB := Lib.hid (HB.out.below HB6.out)
  go_wp2_with fail
  refine (rvector_any _ _ _ _ _ HB.out (by omega)).mono ?_
  rintro e w2 ⟨A3, n3, c3, rfl, hs3, hn3, hb3⟩
  have HS3 := Lib.hid hs3
  have HL3 := Lib.hid hs3.1
  have HOS := Lib.hid ((Own.sl HO6.out).1.below hb3)
  have HB7 := Lib.hid (HB6.out.trans (hb3.mono HB6.out.size))
  have HVA := Lib.hid (vec_length a)
  clear hs3 hb3
  go_wp2
  go_loopw [5, 7] (fun v i wr => ∃ k : Nat, i = .int .i64 k ∧ k ≤ n3 ∧ RjRel w2 a b k v wr) (fun _ i _ => n3 - (intOf i).toNat)
  case atStart => exact ⟨0, rfl, Nat.zero_le _, A6, _, c6, vec a, rfl, HOS.out, joinC_note a b, by omega, Below.refl _ _⟩
  case round =>
    obtain ⟨k, rfl, hk, A8, n8, c8, acc, rfl, hs8, hfold, hlen, hb8⟩ := hrel
    have HS8 := Lib.hid hs8
    have HFO := Lib.hid hfold
    have HB8 := Lib.hid hb8
    have hl8 : n8 ≤ 49 := by have := hs8.1; have := HVA.out; have := HLA.out; omega
    have HLEN := Lib.hid hlen
    have hslr := HS3.out.below hb8
    clear hs8 hfold hlen hb8
    by_cases hlt : k < n3
    · obtain ⟨b0, off, rfl, hbl, hc⟩ := hslr.2.2 (by omega)
      obtain ⟨e0, e1, e2⟩ := hc k hlt
      have HDR := Lib.hid (show ((vec b).drop k).foldl noteC acc = ((vec b).drop (k + 1)).foldl noteC (noteC acc (cT (vec b) k, cS (vec b) k, cR (vec b) k)) by
        rw [List.drop_eq_getElem_cons (by rw [HL3.out]; exact hlt), List.foldl_cons]
        congr 2
        have hl : k < (vec b).length := by rw [HL3.out]; exact hlt
        simp [cT, cS, cR, List.getD, List.getElem?_eq_getElem hl])
      have HNL := Lib.hid (noteC_length acc (cT (vec b) k, cS (vec b) k, cR (vec b) k))
      clear hc hslr
      go_wp2_with fail
      refine (rnote_any _ _ _ _ _ _ _ _ HS8.out hl8).mono ?_
      rintro e w9 ⟨A9, n9, c9, rfl, hs9, hn9, hb9⟩
      rw [rnoteC_eq] at hs9
      have HS9 := Lib.hid hs9
      have HB9 := Lib.hid (HB8.out.trans (hb9.mono HB8.out.size))
      clear hs9 hb9
      go_wp2
      go_roundw
      case rel => exact ⟨k + 1, by go_num, by omega, A9, n9, c9, _, rfl, HS9.out, by rw [← HDR.out]; exact HFO.out, by have := HNL.out; have := HLEN.out; omega, HB9.out⟩
      case measure => simp [intOf]; omega
    · have HF := Lib.hid (show acc = joinC a b by rw [← HFO.out, List.drop_of_length_le (by rw [HL3.out]; omega)]; rfl)
      clear hslr
      go_wp2
      go_ret
      exact ⟨A8, n8, c8, rfl, by rw [← HF.out]; exact HS8.out, by rw [← HS8.out.1, HF.out, ← HLA.out, ← HLB.out]; exact joinC_length a b, HB7.out.trans (HB8.out.mono HB7.out.size)⟩

theorem few_any (w : World) (A : Option Addr) (n c : Nat) :
    Calls Try.prog 24 #[.slice A n c] w fun e w' => e = .returned (.bool (decide (n ≤ 12))) ∧ w = w' := by
  go_enter Try.func24, Try.ntmps24
  go_wp2
  go_ret
  exact ⟨ret_bool (by simp; omega), rfl⟩
theorem at_any (t s r : Int) (w : World) :
    Calls Try.prog 39 #[.int .i64 t, .int .i64 s, .int .i64 r] w fun e w' => e = .returned (.agg #[.int .i64 t, .int .i64 s, .int .i64 r]) ∧ Below w.heap.size w w' := by
  go_enter Try.func39, Try.ntmps39
  go_wp2
  exact bodyPost_ret (v := .agg #[.int .i64 t, .int .i64 s, .int .i64 r]) (by simp [results, Try.results39, go_sem]) rfl ⟨rfl, (Below.refl _ _).alloc (Nat.le_refl _) _⟩
end Go.Proofs.Yteidbomkbddliaa.Csn
