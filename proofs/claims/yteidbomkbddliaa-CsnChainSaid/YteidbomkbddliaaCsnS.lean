/-
  Slices of change sequence numbers: how they read, and the library's functions that only read them.
-/
import Derived.Test.YteidbomkbddliaaCsnA
namespace Go.Proofs.Yteidbomkbddliaa.Csn
open Go.RowKit

abbrev C := Int × Int × Int
def cT (l : List C) (i : Nat) : Int := (l.getD i (0, 0, 0)).1
def cS (l : List C) (i : Nat) : Int := (l.getD i (0, 0, 0)).2.1
def cR (l : List C) (i : Nat) : Int := (l.getD i (0, 0, 0)).2.2
def cAt (l : List C) (i : Nat) : C := l.getD i (0, 0, 0)
theorem cAt_eq (l : List C) (i : Nat) : cAt l i = (cT l i, cS l i, cR l i) := rfl

/-- The cells of n numbers from an address on. -/
def Cells (w : World) (b off n : Nat) (l : List C) : Prop :=
  ∀ i, i < n → w.cell? ⟨b, off + i * 3, none⟩ = some (.int .i64 (cT l i)) ∧ w.cell? ⟨b, off + i * 3 + 1, none⟩ = some (.int .i64 (cS l i)) ∧ w.cell? ⟨b, off + i * 3 + 2, none⟩ = some (.int .i64 (cR l i))
/-- A slice value's address and length, and the list that it reads as. -/
def Sl (w : World) (A : Option Addr) (n c : Nat) (l : List C) : Prop :=
  l.length = n ∧ n ≤ c ∧ (0 < n → ∃ b off, A = some ⟨b, off, none⟩ ∧ b < w.heap.size ∧ Cells w b off n l)
theorem Sl.nil (w : World) (c : Nat) : Sl w none 0 c [] := ⟨rfl, Nat.zero_le _, fun h => absurd h (by omega)⟩
theorem Sl.below {w w' : World} {A : Option Addr} {n c : Nat} {l : List C} (h : Sl w A n c l) (hb : Below w.heap.size w w') : Sl w' A n c l := by
  refine ⟨h.1, h.2.1, fun hn => ?_⟩
  obtain ⟨b, off, hA, hl, hc⟩ := h.2.2 hn
  refine ⟨b, off, hA, Nat.lt_of_lt_of_le hl hb.size, fun i hi => ?_⟩
  have k := bkeep hb hl
  rw [k, k, k]
  exact hc i hi
theorem Sl.take {w : World} {A : Option Addr} {n c k : Nat} {l : List C} (h : Sl w A n c l) (hk : k ≤ n) : Sl w A k c (l.take k) := by
  refine ⟨by rw [List.length_take, h.1]; omega, Nat.le_trans hk h.2.1, fun hn => ?_⟩
  obtain ⟨b, off, hA, hl, hc⟩ := h.2.2 (by omega)
  refine ⟨b, off, hA, hl, fun i hi => ?_⟩
  have e : (l.take k).getD i (0, 0, 0) = l.getD i (0, 0, 0) := by simp [List.getD, hi]
  have := hc i (by omega)
  unfold cT cS cR at *
  rw [e]
  exact this
/-- A slice comes back that reads as l; what was there is as it was. -/
def IsSl (w : World) (N : Nat) (l : List C) (e : Ending) (w' : World) : Prop :=
  ∃ A n c, e = .returned (.slice A n c) ∧ Sl w' A n c l ∧ n ≤ N ∧ Below w.heap.size w w'

/-- The first place at which a condition holds, or -1. -/
def idxF (p : C → Bool) : List C → Nat → Int
  | [], _ => -1
  | x :: r, k => if p x then k else idxF p r (k + 1)
theorem idxF_drop (p : C → Bool) (l : List C) (k : Nat) (hk : k < l.length) : idxF p (l.drop k) k = if p (cAt l k) then (k : Int) else idxF p (l.drop (k + 1)) (k + 1) := by
  rw [List.drop_eq_getElem_cons hk, idxF]
  simp [cAt, List.getD, List.getElem?_eq_getElem hk]
theorem idxF_any (p : C → Bool) (l : List C) (k : Nat) : decide (0 ≤ idxF p l k) = l.any p := by
  induction l generalizing k with
  | nil => simp [idxF]
  | cons x r ih =>
    rw [idxF]
    cases h : p x
    · simp [h, ih]
    · simp [h]

set_option maxHeartbeats 1000000 in
theorem indexFunc_any (fid : Nat) (caps : Array Value) (p : C → Bool) (w : World) (A : Option Addr) (n c : Nat) (l : List C) (hs : Sl w A n c l) (hn : n ≤ 100000)
    (hE : ∀ args w, (callFunc fid args).run Try.prog w = .ok (.enter fid args) w)
    (hp : ∀ t s r w', Below w.heap.size w w' → Calls Try.prog fid (#[.agg #[.int .i64 t, .int .i64 s, .int .i64 r]] ++ caps) w' fun e w'' => e = .returned (.bool (p (t, s, r))) ∧ Below w'.heap.size w' w'') :
    Calls Try.prog 52 #[.slice A n c, .func (.func fid) #[] caps] w fun e w' => e = .returned (.int .i64 (idxF p l 0)) ∧ Below w.heap.size w w' := by
  have HP := Lib.hid hp
  have HS := Lib.hid hs
  clear hp hs
  go_enter Try.func52, Try.ntmps52
  go_wp2
  go_loopw [5, 8] (fun _ i wr => ∃ k : Nat, k ≤ n ∧ i = .int .i64 k ∧ Hid (idxF p (l.drop k) k = idxF p l 0) ∧ Below w.heap.size w wr) (fun _ i _ => n - (intOf i).toNat)
  case atStart => exact ⟨0, Nat.zero_le _, rfl, rfl, Below.refl _ _⟩
  case round =>
    obtain ⟨k, hk, rfl, hx, hb⟩ := hrel
    have HB := Lib.hid hb
    clear hb
    by_cases hlt : k < n
    · obtain ⟨b, off, rfl, hbl, hc⟩ := (HS.out.below HB.out).2.2 (by omega)
      obtain ⟨c0, c1, c2⟩ := hc k hlt
      have HI := Lib.hid (idxF_drop p l k (by rw [HS.out.1]; exact hlt))
      clear hc
      have hd : off + k * 3 + 0 = off + k * 3 := rfl
      cases hpk : p (cT l k, cS l k, cR l k) with
      | true =>
        have HK := Lib.hid hpk
        clear hpk hd
        go_wp2_with (refine (HP.out _ _ _ _ HB.out).mono ?_; rintro e w1 ⟨rfl, hb1⟩; rw [HK.out])
        go_ret
        exact ⟨ret_int (by rw [← hx.out, HI.out, cAt_eq, if_pos HK.out]), HB.out.trans (hb1.mono HB.out.size)⟩
      | false =>
        have HK := Lib.hid hpk
        clear hpk hd
        go_wp2_with (refine (HP.out _ _ _ _ HB.out).mono ?_; rintro e w1 ⟨rfl, hb1⟩; rw [HK.out])
        go_roundw
        case rel => exact ⟨k + 1, by omega, by go_num, by show _ = _; rw [← hx.out, HI.out, cAt_eq, HK.out]; rfl, HB.out.trans (hb1.mono HB.out.size)⟩
        case measure => simp [intOf]; omega
    · have HX := Lib.hid (show idxF p l 0 = -1 by rw [← hx.out, List.drop_of_length_le (by rw [HS.out.1]; omega)]; rfl)
      go_wp2
      go_ret
      exact ⟨ret_int HX.out.symm, HB.out⟩

theorem containsFunc_any (fid : Nat) (caps : Array Value) (p : C → Bool) (w : World) (A : Option Addr) (n c : Nat) (l : List C) (hs : Sl w A n c l) (hn : n ≤ 100000)
    (hE : ∀ args w, (callFunc fid args).run Try.prog w = .ok (.enter fid args) w)
    (hp : ∀ t s r w', Below w.heap.size w w' → Calls Try.prog fid (#[.agg #[.int .i64 t, .int .i64 s, .int .i64 r]] ++ caps) w' fun e w'' => e = .returned (.bool (p (t, s, r))) ∧ Below w'.heap.size w' w'') :
    Calls Try.prog 44 #[.slice A n c, .func (.func fid) #[] caps] w fun e w' => e = .returned (.bool (l.any p)) ∧ Below w.heap.size w w' := by
  have HI := Lib.hid (indexFunc_any fid caps p w A n c l hs hn hE hp)
  have HA := Lib.hid (idxF_any p l 0)
  clear hs hE hp
  go_enter Try.func44, Try.ntmps44
  go_wp2_with (go_at_call 52; refine HI.out.mono ?_; rintro e w1 ⟨rfl, hb⟩)
  go_ret
  exact ⟨ret_bool HA.out, hb⟩

/-- The condition of Check's search. -/
theorem checkFn_any (t s r R : Int) (g : Nat) (w : World) (hg : g < w.heap.size) (h2 : w.cell? ⟨g, 2, none⟩ = some (.int .i64 R)) :
    Calls Try.prog 45 #[.agg #[.int .i64 t, .int .i64 s, .int .i64 r], .pointer (some ⟨g, 0, none⟩)] w fun e w' => e = .returned (.bool (r == R)) ∧ Below w.heap.size w w' := by
  have hg' := World.new_ne w ⟨g, 2, none⟩ h2
  go_enter Try.func45, Try.ntmps45
  go_wp2
  go_ret
  exact ⟨rfl, (Below.refl _ _).alloc (Nat.le_refl _) _⟩

/-- The condition of Covers' search. -/
def pCov (T S R : Int) (x : C) : Bool := x.2.2 == R && decide (0 ≤ cmpC x.1 x.2.1 x.2.2 T S R)
set_option maxHeartbeats 1000000 in
theorem coversFn_any (t s r T S R : Int) (g : Nat) (w : World) (hg : g < w.heap.size) (h0 : w.cell? ⟨g, 0, none⟩ = some (.int .i64 T)) (h1 : w.cell? ⟨g, 1, none⟩ = some (.int .i64 S)) (h2 : w.cell? ⟨g, 2, none⟩ = some (.int .i64 R)) :
    Calls Try.prog 48 #[.agg #[.int .i64 t, .int .i64 s, .int .i64 r], .pointer (some ⟨g, 0, none⟩)] w fun e w' => e = .returned (.bool (pCov T S R (t, s, r))) ∧ Below w.heap.size w w' := by
  have hg' := World.new_ne w ⟨g, 2, none⟩ h2
  by_cases h : r = R
  · subst h
    have HP := Lib.hid (show pCov T S r (t, s, r) = decide (0 ≤ cmpC t s r T S r) by simp [pCov])
    go_enter Try.func48, Try.ntmps48
    go_wp2_with (go_at_call 11; refine (compare_any _ _ _ _ _ _ _).mono ?_; rintro e w1 ⟨rfl, hb⟩)
    go_ret
    exact ⟨ret_bool (by rw [HP.out]), ((Below.refl _ _).alloc (Nat.le_refl _) _).trans (hb.mono (by simp))⟩
  · have HP := Lib.hid (show pCov T S R (t, s, r) = false by simp [pCov, h])
    have hq : (r == R) = false := by simpa using h
    go_enter Try.func48, Try.ntmps48
    go_wp2
    go_ret
    exact ⟨ret_bool (by rw [HP.out]), (Below.refl _ _).alloc (Nat.le_refl _) _⟩

/-- Check, from the last m places on. -/
def chkN (l : List C) : Nat → Int
  | 0 => 0
  | m + 1 => if vld (cT l (l.length - (m + 1))) (cS l (l.length - (m + 1))) (cR l (l.length - (m + 1))) = false then 2
    else if (l.take (l.length - (m + 1))).any (fun x => x.2.2 == cR l (l.length - (m + 1))) then 7
    else if 0 < l.length - (m + 1) ∧ cR l (l.length - (m + 1)) < cR l (l.length - (m + 1) - 1) then 4
    else chkN l m
def chk (l : List C) : Int := chkN l l.length
theorem chkN_step (l : List C) (k : Nat) (hk : k < l.length) : chkN l (l.length - k) = if vld (cT l k) (cS l k) (cR l k) = false then 2
    else if (l.take k).any (fun x => x.2.2 == cR l k) then 7
    else if 0 < k ∧ cR l k < cR l (k - 1) then 4
    else chkN l (l.length - (k + 1)) := by
  obtain ⟨m, hm⟩ : ∃ m, l.length - k = m + 1 := ⟨l.length - k - 1, by omega⟩
  have e : l.length - (m + 1) = k := by omega
  have e2 : l.length - (k + 1) = m := by omega
  rw [hm, chkN, e, e2]
end Go.Proofs.Yteidbomkbddliaa.Csn
