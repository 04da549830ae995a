/-
  The reference: Start.
-/
import Derived.Test.YtapooonlbjgbgaaDoorDvXi
namespace Go.Proofs.YtapooonlbjgbgaaDoor.Dv
open Go.RowKit Go.Proofs.YtapooonlbjgbgaaDoor.Fo Go.Proofs.YtapooonlbjgbgaaDoor.Rf

theorem sta_err {st : Fs} {d u c : Bs} {sc : List Bs} {now k : Int} (h : stE st d u c sc now = k) (hk : k ≠ 0) : sta st d u c sc now = (st, k) := by unfold sta; rw [h, if_neg hk]
theorem rsame_fin {w w' : World} {S : Nat → Prop} {G : Nat} {st st' : Fs} {r k q : Int} {d u c : Bs} {sc : List Bs} {now : Int} (hq : sta st d u c sc now = (st', k)) (he : stE st d u c sc now = q) (hne : q ≠ 0) (hr : r = q) (h : RefE w S G st) (hb : Below w.heap.size w w') :
    Ending.returned (.int .i64 r) = .returned (.int .i64 k) ∧ RefE w' (Go.Proofs.YtapooonlbjgbgaaDoor.grow S w w') G st' ∧ Mods S w w' := by
  rw [sta_err he hne] at hq
  obtain ⟨q1, q2⟩ := Prod.mk.inj hq
  subst hr
  rw [← q1, ← q2]
  exact ⟨rfl, rref_grow w (h.below hb), Mods.of_below _ hb⟩
theorem st5 {st : Fs} {d u c : Bs} {sc : List Bs} {now : Int} (h : wrd d = false ∨ wrd c = false) : stE st d u c sc now = 5 := by unfold stE; rw [if_pos h]
theorem st4 {st : Fs} {d u c : Bs} {sc : List Bs} {now k : Int} (h1 : wrd d = true) (h2 : wrd c = true) (h3 : (cuC u).2 = k) (h4 : k ≠ 0) : stE st d u c sc now = k := by unfold stE; rw [if_neg (by simp [h1, h2]), if_pos (by rw [h3]; exact h4), h3]
theorem stc {st : Fs} {d u c : Bs} {sc : List Bs} {now k : Int} (h1 : wrd d = true) (h2 : wrd c = true) (h3 : (cuC u).2 = 0) (h4 : chkS sc = k) (h5 : k ≠ 0) : stE st d u c sc now = k := by unfold stE; rw [if_neg (by simp [h1, h2]), if_neg (by simp [h3]), if_pos (by rw [h4]; exact h5), h4]
theorem st7 {st : Fs} {d u c : Bs} {sc : List Bs} {now : Int} (h1 : wrd d = true) (h2 : wrd c = true) (h3 : (cuC u).2 = 0) (h4 : chkS sc = 0) {i : Nat} {x : Fw} (hx : st.l[i]? = some x) (h5 : isSame now d (cuC u).1 x = true) : stE st d u c sc now = 7 := by
  unfold stE
  rw [if_neg (by simp [h1, h2]), if_neg (by simp [h3]), if_neg (by simp [h4]), if_pos (List.countP_pos_iff.2 ⟨x, List.mem_of_getElem? hx, h5⟩)]
theorem none_same {l : List Fw} {p : Fw → Bool} (h : ∀ j y, j < l.length → l[j]? = some y → p y = false) : l.countP p = 0 :=
  List.countP_eq_zero.2 (fun y hy => by
    obtain ⟨j, hj⟩ := List.getElem?_of_mem hy
    rw [h j y (List.getElem?_eq_some_iff.1 hj).1 hj]
    decide)
theorem st3 {st : Fs} {d u c : Bs} {sc : List Bs} {now : Int} (h1 : wrd d = true) (h2 : wrd c = true) (h3 : (cuC u).2 = 0) (h4 : chkS sc = 0) (h5 : ∀ j y, j < st.l.length → st.l[j]? = some y → isSame now d (cuC u).1 y = false) (h6 : 256 ≤ st.l.countP (opn now)) : stE st d u c sc now = 3 := by
  unfold stE
  rw [if_neg (by simp [h1, h2]), if_neg (by simp [h3]), if_neg (by simp [h4]), if_neg (by rw [none_same h5]; decide), if_pos h6]
theorem st0 {st : Fs} {d u c : Bs} {sc : List Bs} {now : Int} (h1 : wrd d = true) (h2 : wrd c = true) (h3 : (cuC u).2 = 0) (h4 : chkS sc = 0) (h5 : ∀ j y, j < st.l.length → st.l[j]? = some y → isSame now d (cuC u).1 y = false) (h6 : ¬ 256 ≤ st.l.countP (opn now)) : stE st d u c sc now = 0 := by
  unfold stE
  rw [if_neg (by simp [h1, h2]), if_neg (by simp [h3]), if_neg (by simp [h4]), if_neg (by rw [none_same h5]; decide), if_neg h6]
theorem cnt_take {l : List Fw} {p : Fw → Bool} {k : Nat} {x : Fw} (h : l[k]? = some x) : (l.take (k + 1)).countP p = (l.take k).countP p + if p x = true then 1 else 0 := by
  rw [List.take_add_one, h, List.countP_append]
  simp
set_option maxRecDepth 100000 in
set_option maxHeartbeats 8000000 in
theorem rsta_5 {w : World} {S : Nat → Prop} {G : Nat} {st st' : Fs} {k : Int} (h : RefE w S G st) (d u c : Bs) (sc : List Bs) (A : Option Addr) (cc : Nat) (now : Int) (hd : d.size ≤ 100000) (hu : u.size ≤ 100000) (hc : c.size ≤ 100000) (hs : Ss w A sc.length cc sc) (hsh : Short sc) (hn : sc.length ≤ 1000) (hAS : ∀ a, A = some a → 0 < sc.length → ¬ S a.block) (hq : sta st d u c sc now = (st', k)) (hw : wrd d = false ∨ wrd c = false) :
    Calls Tryd.prog 18 #[.pointer (some ⟨G, 0, none⟩), .string d, .string u, .string c, .slice A sc.length cc, .int .i64 now] w (fun e w' => e = .returned (.int .i64 k) ∧ RefE w' (Go.Proofs.YtapooonlbjgbgaaDoor.grow S w w') G st' ∧ Mods S w w') := by
  have hz9 : True := (fun _ _ => trivial) hu hn
  clear hz9
  have HE := Lib.hid h
  have HQ := Lib.hid hq
  have HS := Lib.hid hs
  have HSH := Lib.hid hsh
  have HAS := Lib.hid hAS
  clear h hq hs hsh hAS
  have HST := Lib.hid (st5 (st := st) (u := u) (sc := sc) (now := now) hw)
  by_cases hd1 : wrd d = false
  · have Wd := Lib.hid hd1
    clear hw hd1
    go_enter Tryd.func18, Tryd.ntmps18
    go_wp2_with fail
    refine (made_yes HE.out).mono ?_
    rintro e wx ⟨rfl, rfl⟩
    go_wp2_with fail
    refine (rw_is d w hd false Wd.out).mono ?_
    rintro e wx ⟨rfl, rfl⟩
    go_wp2
    go_ret
    exact rsame_fin HQ.out HST.out (by decide) rfl HE.out (Below.refl _ _)
  · have Wd := Lib.hid (show wrd d = true by simpa using hd1)
    have Wc := Lib.hid (show wrd c = false from hw.resolve_left hd1)
    clear hw hd1
    go_enter Tryd.func18, Tryd.ntmps18
    go_wp2_with fail
    refine (made_yes HE.out).mono ?_
    rintro e wx ⟨rfl, rfl⟩
    go_wp2_with fail
    refine (rw_is d w hd true Wd.out).mono ?_
    rintro e wx ⟨rfl, rfl⟩
    go_wp2_with fail
    refine (rw_is c w hc false Wc.out).mono ?_
    rintro e wx ⟨rfl, rfl⟩
    go_wp2
    go_ret
    exact rsame_fin HQ.out HST.out (by decide) rfl HE.out (Below.refl _ _)
set_option maxRecDepth 100000 in
set_option maxHeartbeats 8000000 in
theorem rsta_4 {w : World} {S : Nat → Prop} {G : Nat} {st st' : Fs} {k : Int} (h : RefE w S G st) (d u c : Bs) (sc : List Bs) (A : Option Addr) (cc : Nat) (now : Int) (hd : d.size ≤ 100000) (hu : u.size ≤ 100000) (hc : c.size ≤ 100000) (hs : Ss w A sc.length cc sc) (hsh : Short sc) (hn : sc.length ≤ 1000) (hAS : ∀ a, A = some a → 0 < sc.length → ¬ S a.block) (hq : sta st d u c sc now = (st', k)) (h1 : wrd d = true) (h2 : wrd c = true) (h3 : (cuC u).2 ≠ 0) :
    Calls Tryd.prog 18 #[.pointer (some ⟨G, 0, none⟩), .string d, .string u, .string c, .slice A sc.length cc, .int .i64 now] w (fun e w' => e = .returned (.int .i64 k) ∧ RefE w' (Go.Proofs.YtapooonlbjgbgaaDoor.grow S w w') G st' ∧ Mods S w w') := by
  have hz9 : True := (fun _ _ => trivial) hu hn
  clear hz9
  have HE := Lib.hid h
  have HQ := Lib.hid hq
  have HS := Lib.hid hs
  have HSH := Lib.hid hsh
  have HAS := Lib.hid hAS
  clear h hq hs hsh hAS
  have Wd := Lib.hid h1
  have Wc := Lib.hid h2
  obtain ⟨⟨code, er⟩, hcu⟩ : ∃ r, cuC u = r := ⟨_, rfl⟩
  have HCU := Lib.hid hcu
  have HST := Lib.hid (st4 (st := st) (d := d) (c := c) (u := u) (sc := sc) (now := now) h1 h2 rfl h3)
  rw [hcu] at HST h3
  simp only at HST h3
  have heb : (er == 0) = false := beq_eq_false_iff_ne.2 h3
  clear h1 h2 hcu
  go_enter Tryd.func18, Tryd.ntmps18
  go_wp2_with fail
  refine (made_yes HE.out).mono ?_
  rintro e wx ⟨rfl, rfl⟩
  go_wp2_with fail
  refine (rw_is d w hd true Wd.out).mono ?_
  rintro e wx ⟨rfl, rfl⟩
  go_wp2_with fail
  refine (rw_is c w hc true Wc.out).mono ?_
  rintro e wx ⟨rfl, rfl⟩
  go_wp2_with fail
  refine (rclean_any u w hu HCU.out).mono ?_
  rintro e w1 ⟨rfl, hb1⟩
  have HB1 := Lib.hid hb1
  clear hb1
  go_wp2
  go_ret
  exact rsame_fin HQ.out HST.out h3 rfl HE.out HB1.out
set_option maxRecDepth 100000 in
set_option maxHeartbeats 8000000 in
theorem rsta_c {w : World} {S : Nat → Prop} {G : Nat} {st st' : Fs} {k : Int} (h : RefE w S G st) (d u c : Bs) (sc : List Bs) (A : Option Addr) (cc : Nat) (now : Int) (hd : d.size ≤ 100000) (hu : u.size ≤ 100000) (hc : c.size ≤ 100000) (hs : Ss w A sc.length cc sc) (hsh : Short sc) (hn : sc.length ≤ 1000) (hAS : ∀ a, A = some a → 0 < sc.length → ¬ S a.block) (hq : sta st d u c sc now = (st', k)) (h1 : wrd d = true) (h2 : wrd c = true) (h3 : (cuC u).2 = 0) {q : Int} (h4 : chkS sc = q) (h5 : q ≠ 0) :
    Calls Tryd.prog 18 #[.pointer (some ⟨G, 0, none⟩), .string d, .string u, .string c, .slice A sc.length cc, .int .i64 now] w (fun e w' => e = .returned (.int .i64 k) ∧ RefE w' (Go.Proofs.YtapooonlbjgbgaaDoor.grow S w w') G st' ∧ Mods S w w') := by
  have hz9 : True := (fun _ _ => trivial) hu hn
  clear hz9
  have HE := Lib.hid h
  have HQ := Lib.hid hq
  have HS := Lib.hid hs
  have HSH := Lib.hid hsh
  have HAS := Lib.hid hAS
  clear h hq hs hsh hAS
  have Wd := Lib.hid h1
  have Wc := Lib.hid h2
  obtain ⟨⟨code, er⟩, hcu⟩ : ∃ r, cuC u = r := ⟨_, rfl⟩
  have HCU := Lib.hid hcu
  have HST := Lib.hid (stc (st := st) (d := d) (c := c) (u := u) (sc := sc) (now := now) h1 h2 h3 h4 h5)
  rw [hcu] at h3
  simp only at h3
  subst h3
  have HCK := Lib.hid h4
  have heb : (q == 0) = false := beq_eq_false_iff_ne.2 h5
  clear h1 h2 hcu h4
  go_enter Tryd.func18, Tryd.ntmps18
  go_wp2_with fail
  refine (made_yes HE.out).mono ?_
  rintro e wx ⟨rfl, rfl⟩
  go_wp2_with fail
  refine (rw_is d w hd true Wd.out).mono ?_
  rintro e wx ⟨rfl, rfl⟩
  go_wp2_with fail
  refine (rw_is c w hc true Wc.out).mono ?_
  rintro e wx ⟨rfl, rfl⟩
  go_wp2_with fail
  refine (rclean_any u w hu HCU.out).mono ?_
  rintro e w1 ⟨rfl, hb1⟩
  have HB1 := Lib.hid hb1
  clear hb1
  go_wp2_with fail
  refine (rcheck_any A sc.length cc sc w1 (HS.out.below HB1.out) HSH.out (by omega)).mono ?_
  rintro e w2 ⟨rfl, hb2⟩
  have HB2 := Lib.hid (HB1.out.trans (hb2.mono HB1.out.size))
  clear hb2
  rw [HCK.out]
  go_wp2
  go_ret
  exact rsame_fin HQ.out HST.out h5 rfl HE.out HB2.out
end Go.Proofs.YtapooonlbjgbgaaDoor.Dv
