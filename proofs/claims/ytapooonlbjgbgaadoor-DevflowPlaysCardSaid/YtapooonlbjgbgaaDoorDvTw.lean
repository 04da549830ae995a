/-
  Plays: equal grants; the two records lie apart.
-/
import Derived.Test.YtapooonlbjgbgaaDoorDvXn
import Derived.Test.YtapooonlbjgbgaaDoorDvPl
import Derived.KernelRfl
namespace Go.Proofs.YtapooonlbjgbgaaDoor.Dv
open Go.RowKit Go.Proofs.YtapooonlbjgbgaaDoor.Fo Go.Proofs.YtapooonlbjgbgaaDoor.Rf

set_option maxRecDepth 100000 in
set_option maxHeartbeats 4000000 in
/-- Two grants of the same fields, whose scopes read alike. -/
theorem same_yes (u c t s r nn ch : Bs) (m a lv : Int) (A B : Option Addr) (n d d2 : Nat) (l : List Bs) (w : World) (hl : Ss w A n d l) (hk : Ss w B n d2 l) (hn : n ≤ 100000) :
    Calls Tryd.prog 28 #[.agg #[.string u, .string c, .string t, .string s, .string r, .string nn, .string ch, .int .i64 m, .slice A n d, .int .i64 a, .int .i64 lv], .agg #[.string u, .string c, .string t, .string s, .string r, .string nn, .string ch, .int .i64 m, .slice B n d2, .int .i64 a, .int .i64 lv]] w fun e w' => e = .returned (.bool true) ∧ Below w.heap.size w w' := by
  have HL := Lib.hid hl
  have HK := Lib.hid hk
  clear hl hk
  go_enter Tryd.func28, Tryd.ntmps28
  go_wp2_with fail
  refine (lists_yes A B n d d2 l _ (HL.out.below (by go_grown)) (HK.out.below (by go_grown)) hn).mono ?_
  rintro e w1 ⟨rfl, hb1⟩
  have HB1 := Lib.hid hb1
  clear hb1
  go_wp2
  go_ret
  exact ⟨rfl, Below.trans (by go_grown) (HB1.out.mono (by simp; omega))⟩
theorem rep_far {w w' : World} {S T : Nat → Prop} {F : Nat} {st : Fs} (h : RepB w T F st) (hm : Mods S w w') (hd : ∀ k, k < w.heap.size → T k → ¬ S k) : RepB w' T F st :=
  h.keep (fun k hk e => hm.block k hk (hd k hk e)) hm.size
theorem ref_far {w w' : World} {S T : Nat → Prop} {F : Nat} {st : Fs} (h : RefB w T F st) (hm : Mods S w w') (hd : ∀ k, k < w.heap.size → T k → ¬ S k) : RefB w' T F st :=
  h.keep (fun k hk e => hm.block k hk (hd k hk e)) hm.size
/-- The two records lie apart, in blocks from B on. -/
def Two (w : World) (B F G : Nat) (st : Fs) : Prop := ∃ T S : Nat → Prop, RepB w T F st ∧ RefB w S G st ∧ (∀ k, T k → ¬ S k) ∧ (∀ k, T k → B ≤ k ∧ k < w.heap.size) ∧ (∀ k, S k → B ≤ k ∧ k < w.heap.size)
theorem RepB.cap {w : World} {T : Nat → Prop} {F : Nat} {st : Fs} (h : RepB w T F st) : RepB w (fun k => T k ∧ k < w.heap.size) F st := h.mono (fun _ h1 h2 => ⟨h2, h1⟩)
theorem RefB.cap {w : World} {T : Nat → Prop} {F : Nat} {st : Fs} (h : RefB w T F st) : RefB w (fun k => T k ∧ k < w.heap.size) F st := h.mono (fun _ h1 h2 => ⟨h2, h1⟩)
theorem Two.below {w w' : World} {B F G : Nat} {st : Fs} (h : Two w B F G st) (hb : Below w.heap.size w w') : Two w' B F G st := by
  obtain ⟨T, S, h1, h2, h3, h4, h5⟩ := h
  exact ⟨T, S, h1.below hb, h2.below hb, h3, fun k e => ⟨(h4 k e).1, Nat.lt_of_lt_of_le (h4 k e).2 hb.size⟩, fun k e => ⟨(h5 k e).1, Nat.lt_of_lt_of_le (h5 k e).2 hb.size⟩⟩
/-- The program's record has turned, the reference's has not yet; what the call changed lies apart from it. -/
structure Mid (w : World) (B F G : Nat) (st st' : Fs) (w1 : World) : Prop where
  rep : ∃ T S : Nat → Prop, RepB w1 T F st' ∧ RefB w1 S G st ∧ (∀ k, T k → ¬ S k) ∧ (∀ k, T k → B ≤ k ∧ k < w1.heap.size) ∧ (∀ k, S k → B ≤ k ∧ k < w.heap.size)
  size : w.heap.size ≤ w1.heap.size
theorem Two.first {w w1 : World} {B F G : Nat} {st st' : Fs} {T S T' : Nat → Prop} (hS : RefB w S G st) (hd : ∀ k, T k → ¬ S k) (hT1 : ∀ k, T k → B ≤ k) (hS1 : ∀ k, S k → B ≤ k ∧ k < w.heap.size) (hB : B ≤ w.heap.size) (hm : Mods T w w1) (h : RepB w1 T' F st') (hT' : ∀ k, T' k → T k ∨ w.heap.size ≤ k) : Mid w B F G st st' w1 :=
  ⟨⟨fun k => T' k ∧ k < w1.heap.size, S, h.cap, ref_far hS hm (fun k _ e e2 => hd k e2 e), fun k e e2 => by
    rcases hT' k e.1 with e3 | e3
    · exact hd k e3 e2
    · have := (hS1 k e2).2; omega, fun k e => ⟨by
    rcases hT' k e.1 with e3 | e3
    · exact hT1 k e3
    · omega, e.2⟩, hS1⟩, hm.size⟩
theorem Mid.below {w w1 w2 : World} {B F G : Nat} {st st' : Fs} (h : Mid w B F G st st' w1) (hb : Below w1.heap.size w1 w2) : Mid w B F G st st' w2 := by
  obtain ⟨⟨T, S, h1, h2, h3, h4, h5⟩, hz⟩ := h
  exact ⟨⟨T, S, h1.below hb, h2.below hb, h3, fun k e => ⟨(h4 k e).1, Nat.lt_of_lt_of_le (h4 k e).2 hb.size⟩, h5⟩, Nat.le_trans hz hb.size⟩
theorem Mid.second {w1 w2 : World} {B F G : Nat} {st' : Fs} {T S S' : Nat → Prop} (h1 : RepB w1 T F st') (hd : ∀ k, T k → ¬ S k) (hT1 : ∀ k, T k → B ≤ k ∧ k < w1.heap.size) (hS1 : ∀ k, S k → B ≤ k) (hB : B ≤ w1.heap.size) (hm : Mods S w1 w2) (h : RefB w2 S' G st') (hS' : ∀ k, S' k → S k ∨ w1.heap.size ≤ k) : Two w2 B F G st' :=
  ⟨T, fun k => S' k ∧ k < w2.heap.size, rep_far h1 hm (fun k _ e => hd k e), h.cap, fun k e e2 => by
    rcases hS' k e2.1 with e3 | e3
    · exact hd k e e3
    · have := (hT1 k e).2; omega, fun k e => ⟨(hT1 k e).1, Nat.lt_of_lt_of_le (hT1 k e).2 hm.size⟩, fun k e => ⟨by
    rcases hS' k e.1 with e3 | e3
    · exact hS1 k e3
    · omega, e.2⟩⟩
end Go.Proofs.YtapooonlbjgbgaaDoor.Dv
