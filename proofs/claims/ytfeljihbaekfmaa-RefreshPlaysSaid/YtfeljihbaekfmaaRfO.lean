/-
  Counting over families as a map is ranged over; the program's Len.
-/
import Derived.Test.YtfeljihbaekfmaaRfN
namespace Go.Proofs.Ytfeljihbaekfmaa.Rf
open Go.RowKit Go.Proofs.Ytfeljihbaekfmaa.Fo Go.Maps

def kyF (x : Fm) : Lit := .string x.id.data.toList
theorem kyF_ne {x y : Fm} (h : x.id ≠ y.id) : (kyF y).sameKey (kyF x) = false := sameKey_ne fun e => h (bs_ext (by injection e with e; exact e.symm))
theorem kyF_self (x : Fm) : (kyF x).sameKey (kyF x) = true := WideAt.sameKey_self trivial
/-- How many families have been passed that meet a condition. -/
def cntL (left : Lit → Bool) (c : Fm → Bool) (l : List Fm) : Nat := l.countP fun y => !left (kyF y) && c y
theorem cntL_step {left : Lit → Bool} {c : Fm → Bool} {l : List Fm} {x : Fm} (hn : (l.map Fm.id).Nodup) (hx : x ∈ l) (hl : left (kyF x) = true) :
    cntL (fun z => left z && !z.sameKey (kyF x)) c l = cntL left c l + (if c x then 1 else 0) := by
  unfold cntL
  induction l with
  | nil => simp at hx
  | cons y r ih =>
    simp only [List.map_cons, List.nodup_cons] at hn
    rw [List.countP_cons, List.countP_cons]
    rcases List.mem_cons.1 hx with rfl | hx'
    · have e : r.countP (fun y => !(left (kyF y) && !(kyF y).sameKey (kyF x)) && c y) = r.countP (fun y => !left (kyF y) && c y) := by
        refine List.countP_congr fun z hz => ?_
        have : x.id ≠ z.id := fun e => hn.1 (by rw [e]; exact List.mem_map.2 ⟨z, hz, rfl⟩)
        rw [kyF_ne this]
        simp
      rw [e]
      simp [kyF_self, hl]
    · have : x.id ≠ y.id := fun e => hn.1 (by rw [← e]; exact List.mem_map.2 ⟨x, hx', rfl⟩)
      rw [ih hn.2 hx']
      simp [kyF_ne this]
      omega
theorem cntL_start {left : Lit → Bool} {c : Fm → Bool} {l : List Fm} (h : ∀ x ∈ l, left (kyF x) = true) : cntL left c l = 0 := by
  unfold cntL
  rw [List.countP_eq_zero]
  intro x hx
  simp [h x hx]
theorem cntL_end {left : Lit → Bool} {c : Fm → Bool} {l : List Fm} (h : ∀ z, left z = false) : cntL left c l = l.countP c := by
  unfold cntL
  simp [h]
theorem cntL_le (left : Lit → Bool) (c : Fm → Bool) (l : List Fm) : cntL left c l ≤ l.length := List.countP_le_length
theorem has_all {D : DataW Unit} {pl : List (Nat × Fm)} {f1 : List UInt8 → Option (DataW Unit)} (hv : View D f1) (v1 : ∀ x d, f1 x = some d ↔ ∃ p ∈ pl, p.2.id.data.toList = x ∧ d = .lit (.int .i64 (p.1 : Nat))) {l : List Fm} (hl : pl.map Prod.snd = l) : ∀ x ∈ l, Maps.has D (kyF x) = true := by
  intro x hx
  rw [← hl] at hx
  obtain ⟨p, hp, rfl⟩ := List.mem_map.1 hx
  rw [show kyF p.2 = .string p.2.id.data.toList from rfl, hv.1, (v1 _ _).2 ⟨p, hp, rfl, rfl⟩]
  rfl
theorem ranges_below {P : Program} {k : TypeId} {R : Value → Option (DataW Unit × List MemPlace)} {w w' : World} {b r n : Nat} {D : DataW Unit} {left : Lit → Bool} {cnt : Nat} (h : w.ranges P k R b r n D left cnt) (hb : Below w.heap.size w w') : w'.ranges P k R b r n D left cnt :=
  h.kept (row := none) ⟨hb.os, hb.tape, hb.output, hb.size, fun i hi _ => hb.block i hi⟩ (by simp) (by simp)
theorem below_iter {w w1 w2 : World} {r : Nat} (hb : Below w.heap.size w w1) (hg : w1.grownBy w2 (some r)) (hr : w.heap.size ≤ r) : Below w.heap.size w w2 := hb.grown hg hb.size (fun k e => by injection e with e; omega)
theorem snd_mem {pl : List (Nat × Fm)} {l : List Fm} (hl : pl.map Prod.snd = l) {p : Nat × Fm} (hp : p ∈ pl) : p.2 ∈ l := by rw [← hl]; exact List.mem_map.2 ⟨p, hp, rfl⟩
set_option maxHeartbeats 1000000 in
theorem len_any {w : World} {S : Nat → Prop} {F : Nat} {st : St} (h : RepE w S F st) (now : Int) :
    Calls Try.prog 18 #[.pointer (some ⟨F, 0, none⟩), .int .i64 now] w fun e w' => e = .returned (.int .i64 (lenS st now : Nat)) ∧ Below w.heap.size w w' := by
  obtain ⟨I, M1, M2, pl, h⟩ := h
  have c2 := h.c2
  have HNd := Lib.hid h.inv.ids
  have hl256 := h.inv.len
  obtain ⟨f1, ⟨D, ho, hsz, hv⟩, v1⟩ := h.h1
  have HL := Lib.hid h.hl
  have HV := Lib.hid hv
  have HV1 := Lib.hid v1
  have HO := Lib.hid ho
  have HP := Lib.hid (show ∀ x d, f1 x = some d → ∃ q : Nat, d = .lit (.int .i64 (q : Nat)) from fun x d hx => by obtain ⟨p, _, _, e⟩ := (v1 x d).1 hx; exact ⟨p.1, e⟩)
  have HH := Lib.hid (has_all hv v1 h.hl)
  have H := Lib.hid h
  clear h hv v1 hsz ho
  go_enter Try.func18, Try.ntmps18
  go_wp2_with (first | (go_at_call 40; refine (made_yes H.out).mono ?_; rintro e w1 ⟨rfl, rfl⟩) | (at_range; refine wpList_range_own _ rfl _ 61 rfl 9 73 (Go.Maps.string_keyed strT) map1 ptrR M1 pl.length D rfl HO.out ?_; intro w0 hrg0 hg0 hs0))
  go_frame
  have HR0 := Lib.hid hrg0
  have HB0 := Lib.hid (show Below w.heap.size w w0 from (Below.refl _ _).grown hg0 (Nat.le_refl _) (fun k e => by cases e))
  clear hrg0 hg0
  go_loopw [5] (fun n wr => ∃ (left : Lit → Bool) (cnt m : Nat), n = .int .i64 m ∧ wr.ranges Try.prog 9 ptrR M1 w.heap.size pl.length D left cnt ∧ Hid (m = cntL left (fun x => liveF x now) st.l) ∧ Below w.heap.size w wr) (fun _ wr => wr.rangeLeft M1 w.heap.size)
  case atStart => exact ⟨Maps.has D, Maps.size D, 0, rfl, HR0.out, (cntL_start HH.out).symm, HB0.out⟩
  case round =>
    obtain ⟨left, cnt, m, rfl, hrg, HM, hb⟩ := hrel
    have HRG := Lib.hid hrg
    have HB := Lib.hid hb
    have hm256 : m ≤ st.l.length := by rw [HM.out]; exact cntL_le _ _ _
    clear hrg hb
    go_wp2_with (at_next; refine wpList_next_view rfl _ rfl 9 strT M1 w.heap.size _ D f1 HV.out HP.out left cnt rfl HRG.out ?_ ?_)
    · intro hl
      have HF := Lib.hid (show m = lenS st now by rw [HM.out, cntL_end hl]; rfl)
      clear hl
      go_wp2
      go_ret
      exact ⟨ret_int (by rw [HF.out]), HB.out⟩
    · intro s q w2 cnt2 hf hlk hrg2 hlt hg2 hs2 hen
      obtain ⟨p, hp, hps, hpq⟩ := (HV1.out _ _).1 hf
      simp only [DataW.lit.injEq, Lit.int.injEq, true_and] at hpq
      have hq : q = p.1 := by omega
      subst hq
      have hs : s = p.2.id := (bs_ext hps).symm
      subst hs
      have HRG2 := Lib.hid hrg2
      have HB2 := Lib.hid (below_iter HB.out hg2 (Nat.le_refl _))
      have HST := Lib.hid (cntL_step (c := fun x => liveF x now) HNd.out (snd_mem HL.out hp) (show left (kyF p.2) = true from hlk))
      have HLT := Lib.hid hlt
      have HPP := Lib.hid hp
      have c2' := (bkeep HB2.out (World.block_lt_of_cell? w _ c2) 2).trans c2
      clear hf hlk hrg2 hlt hg2 hps hpq hp
      cases hlv : liveF p.2 now with
      | true =>
        have HI := Lib.hid (show m + 1 = cntL (fun z => left z && !z.sameKey (kyF p.2)) (fun x => liveF x now) st.l by rw [HST.out, HM.out]; simp [hlv])
        have HLV := Lib.hid hlv
        clear hlv
        go_wp2_with fail
        refine (live_at (H.out.below HB2.out) p HPP.out now).mono ?_
        rintro e w3 ⟨rfl, hb3⟩
        have HB3 := Lib.hid (HB2.out.trans (hb3.mono HB2.out.size))
        have HRG3 := Lib.hid (ranges_below HRG2.out hb3)
        rw [HLV.out]
        clear hb3
        go_wp2
        go_roundw
        case rel => exact ⟨_, cnt2, m + 1, by go_num, HRG3.out, HI.out, HB3.out⟩
        case measure => rw [HRG3.out.left_eq, HRG.out.left_eq]; exact HLT.out
      | false =>
        have HI := Lib.hid (show m = cntL (fun z => left z && !z.sameKey (kyF p.2)) (fun x => liveF x now) st.l by rw [HST.out, HM.out]; simp [hlv])
        have HLV := Lib.hid hlv
        clear hlv
        go_wp2_with fail
        refine (live_at (H.out.below HB2.out) p HPP.out now).mono ?_
        rintro e w3 ⟨rfl, hb3⟩
        have HB3 := Lib.hid (HB2.out.trans (hb3.mono HB2.out.size))
        have HRG3 := Lib.hid (ranges_below HRG2.out hb3)
        rw [HLV.out]
        clear hb3
        go_wp2
        go_roundw
        case rel => exact ⟨_, cnt2, m, rfl, HRG3.out, HI.out, HB3.out⟩
        case measure => rw [HRG3.out.left_eq, HRG.out.left_eq]; exact HLT.out
theorem len_nil (now : Int) (w : World) : Calls Try.prog 18 #[.pointer none, .int .i64 now] w fun e w' => e = .returned (.int .i64 0) ∧ w = w' := by
  go_enter Try.func18, Try.ntmps18
  go_wp2_with (go_at_call 40; refine (made_no _).mono ?_; rintro e w1 ⟨rfl, rfl⟩)
  go_ret
  exact ⟨rfl, rfl⟩
end Go.Proofs.Ytfeljihbaekfmaa.Rf
