/-
  The reference's Start: its errors.
-/
import Derived.Test.YtfeljihbaekfmaaRfXe
namespace Go.Proofs.Ytfeljihbaekfmaa.Rf
open Go.RowKit Go.Proofs.Ytfeljihbaekfmaa.Fo

/-- A number comes back, the families have turned. -/
def RNumIs (w : World) (S : Nat → Prop) (G : Nat) (n : Int) (st : St) (e : Ending) (w' : World) : Prop := e = .returned (.int .i64 n) ∧ RefE w' (Go.Proofs.Ytfeljihbaekfmaa.grow S w w') G st ∧ Mods S w w'
theorem rnum_same {w w' : World} {S : Nat → Prop} {G : Nat} {st : St} {x : Int} {r : St × Int} (hr : r = (st, x)) (h : RefE w S G st) (hb : Below w.heap.size w w') : RNumIs w S G r.2 r.1 (.returned (.int .i64 x)) w' := by
  subst hr
  refine ⟨rfl, h.keep (fun _ e => Or.inl e) (fun k e => hb.block k (h.lt k e)) hb.size (fun k e => ?_), Mods.of_below _ hb⟩
  rcases e with e | e
  · exact Nat.lt_of_lt_of_le (h.lt k e) hb.size
  · exact e.2
set_option maxRecDepth 100000 in
set_option maxHeartbeats 4000000 in
theorem rstart_5a {w : World} {S : Nat → Prop} {G : Nat} {st : St} (h : RefE w S G st) (i t : Bs) (g : Gr) (A : Option Addr) (n c : Nat) (now : Int) (hi : i.size ≤ 100000) (ht : t.size ≤ 100000) (hu : g.user.size ≤ 100000) (hcl : g.client.size ≤ 100000) (hse : g.session.size ≤ 100000)
    (hs : Ss w A n c g.scopes) (hsh : Short g.scopes) (hn : n ≤ 1000) (q0 : wrd i = false) (hr : start st i t g now = (st, 5)) :
    Calls Try.prog 34 #[.pointer (some ⟨G, 0, none⟩), .string i, .string t, .agg #[.string g.user, .string g.client, .string g.tenant, .string g.session, .string g.redirect, .string g.nonce, .string g.challenge, .int .i64 g.method, (.slice A n c), .int .i64 g.auth, .int .i64 g.level], .int .i64 now] w (RNumIs w S G (start st i t g now).2 (start st i t g now).1) := by
  have hz9 : True := (fun _ _ _ _ _ _ => trivial) hi ht hu hcl hse hn
  clear hz9
  have HR := Lib.hid hr
  have HS := Lib.hid hs
  have HSH := Lib.hid hsh
  have HE := Lib.hid h
  clear hr hs hsh h
  have H0 := Lib.hid q0
  clear q0
  go_enter Try.func34, Try.ntmps34
  go_upto_region 1 with fail
  obtain ⟨w0, hw0⟩ : ∃ w0, w0 = w.alloc (.cells #[.string g.user, .string g.client, .string g.tenant, .string g.session, .string g.redirect, .string g.nonce, .string g.challenge, .int .i64 g.method, (.slice A n c), .int .i64 g.auth, .int .i64 g.level] 35) := ⟨_, rfl⟩
  rw [← hw0]
  have HB := Lib.hid (show Below w.heap.size w w0 by rw [hw0]; go_grown)
  have HX := Lib.hid (show w0.heap[w.heap.size]? = some (.cells #[.string g.user, .string g.client, .string g.tenant, .string g.session, .string g.redirect, .string g.nonce, .string g.challenge, .int .i64 g.method, (.slice A n c), .int .i64 g.auth, .int .i64 g.level] 35 (0, 0)) by rw [hw0]; exact heap_alloc_new _ _)
  have HE0 := Lib.hid (HE.out.below HB.out)
  clear hw0
  have x0 := cell_block HX.out 0
  have x1 := cell_block HX.out 1
  have x3 := cell_block HX.out 3
  have x8 := cell_block HX.out 8
  simp only [List.getElem?_toArray, List.getElem?_cons_zero, List.getElem?_cons_succ] at x0 x1 x3 x8
  go_wp2_with fail
  refine (rmade_yes HE0.out).mono ?_
  rintro e w1 ⟨rfl, rfl⟩
  go_wp2_with fail
  refine (limited_is now w0).mono ?_
  rintro e w1 ⟨rfl, rfl⟩
  go_wp2_with fail
  refine (rw_is i w0 hi false H0.out).mono ?_
  rintro e w1 ⟨rfl, rfl⟩
  go_wp2
  go_ret
  exact rnum_same HR.out HE.out HB.out
set_option maxRecDepth 100000 in
set_option maxHeartbeats 4000000 in
theorem rstart_5b {w : World} {S : Nat → Prop} {G : Nat} {st : St} (h : RefE w S G st) (i t : Bs) (g : Gr) (A : Option Addr) (n c : Nat) (now : Int) (hi : i.size ≤ 100000) (ht : t.size ≤ 100000) (hu : g.user.size ≤ 100000) (hcl : g.client.size ≤ 100000) (hse : g.session.size ≤ 100000)
    (hs : Ss w A n c g.scopes) (hsh : Short g.scopes) (hn : n ≤ 1000) (q0 : wrd i = true) (q1 : wrd t = false) (hr : start st i t g now = (st, 5)) :
    Calls Try.prog 34 #[.pointer (some ⟨G, 0, none⟩), .string i, .string t, .agg #[.string g.user, .string g.client, .string g.tenant, .string g.session, .string g.redirect, .string g.nonce, .string g.challenge, .int .i64 g.method, (.slice A n c), .int .i64 g.auth, .int .i64 g.level], .int .i64 now] w (RNumIs w S G (start st i t g now).2 (start st i t g now).1) := by
  have hz9 : True := (fun _ _ _ _ _ _ => trivial) hi ht hu hcl hse hn
  clear hz9
  have HR := Lib.hid hr
  have HS := Lib.hid hs
  have HSH := Lib.hid hsh
  have HE := Lib.hid h
  clear hr hs hsh h
  have H0 := Lib.hid q0
  have H1 := Lib.hid q1
  clear q0 q1
  go_enter Try.func34, Try.ntmps34
  go_upto_region 1 with fail
  obtain ⟨w0, hw0⟩ : ∃ w0, w0 = w.alloc (.cells #[.string g.user, .string g.client, .string g.tenant, .string g.session, .string g.redirect, .string g.nonce, .string g.challenge, .int .i64 g.method, (.slice A n c), .int .i64 g.auth, .int .i64 g.level] 35) := ⟨_, rfl⟩
  rw [← hw0]
  have HB := Lib.hid (show Below w.heap.size w w0 by rw [hw0]; go_grown)
  have HX := Lib.hid (show w0.heap[w.heap.size]? = some (.cells #[.string g.user, .string g.client, .string g.tenant, .string g.session, .string g.redirect, .string g.nonce, .string g.challenge, .int .i64 g.method, (.slice A n c), .int .i64 g.auth, .int .i64 g.level] 35 (0, 0)) by rw [hw0]; exact heap_alloc_new _ _)
  have HE0 := Lib.hid (HE.out.below HB.out)
  clear hw0
  have x0 := cell_block HX.out 0
  have x1 := cell_block HX.out 1
  have x3 := cell_block HX.out 3
  have x8 := cell_block HX.out 8
  simp only [List.getElem?_toArray, List.getElem?_cons_zero, List.getElem?_cons_succ] at x0 x1 x3 x8
  go_wp2_with fail
  refine (rmade_yes HE0.out).mono ?_
  rintro e w1 ⟨rfl, rfl⟩
  go_wp2_with fail
  refine (limited_is now w0).mono ?_
  rintro e w1 ⟨rfl, rfl⟩
  go_wp2_with fail
  refine (rw_is i w0 hi true H0.out).mono ?_
  rintro e w1 ⟨rfl, rfl⟩
  go_wp2_with fail
  refine (rw_is t w0 ht false H1.out).mono ?_
  rintro e w1 ⟨rfl, rfl⟩
  go_wp2
  go_ret
  exact rnum_same HR.out HE.out HB.out
set_option maxRecDepth 100000 in
set_option maxHeartbeats 4000000 in
theorem rstart_5c {w : World} {S : Nat → Prop} {G : Nat} {st : St} (h : RefE w S G st) (i t : Bs) (g : Gr) (A : Option Addr) (n c : Nat) (now : Int) (hi : i.size ≤ 100000) (ht : t.size ≤ 100000) (hu : g.user.size ≤ 100000) (hcl : g.client.size ≤ 100000) (hse : g.session.size ≤ 100000)
    (hs : Ss w A n c g.scopes) (hsh : Short g.scopes) (hn : n ≤ 1000) (q0 : wrd i = true) (q1 : wrd t = true) (q2 : wrd g.user = false) (hr : start st i t g now = (st, 5)) :
    Calls Try.prog 34 #[.pointer (some ⟨G, 0, none⟩), .string i, .string t, .agg #[.string g.user, .string g.client, .string g.tenant, .string g.session, .string g.redirect, .string g.nonce, .string g.challenge, .int .i64 g.method, (.slice A n c), .int .i64 g.auth, .int .i64 g.level], .int .i64 now] w (RNumIs w S G (start st i t g now).2 (start st i t g now).1) := by
  have hz9 : True := (fun _ _ _ _ _ _ => trivial) hi ht hu hcl hse hn
  clear hz9
  have HR := Lib.hid hr
  have HS := Lib.hid hs
  have HSH := Lib.hid hsh
  have HE := Lib.hid h
  clear hr hs hsh h
  have H0 := Lib.hid q0
  have H1 := Lib.hid q1
  have H2 := Lib.hid q2
  clear q0 q1 q2
  go_enter Try.func34, Try.ntmps34
  go_upto_region 1 with fail
  obtain ⟨w0, hw0⟩ : ∃ w0, w0 = w.alloc (.cells #[.string g.user, .string g.client, .string g.tenant, .string g.session, .string g.redirect, .string g.nonce, .string g.challenge, .int .i64 g.method, (.slice A n c), .int .i64 g.auth, .int .i64 g.level] 35) := ⟨_, rfl⟩
  rw [← hw0]
  have HB := Lib.hid (show Below w.heap.size w w0 by rw [hw0]; go_grown)
  have HX := Lib.hid (show w0.heap[w.heap.size]? = some (.cells #[.string g.user, .string g.client, .string g.tenant, .string g.session, .string g.redirect, .string g.nonce, .string g.challenge, .int .i64 g.method, (.slice A n c), .int .i64 g.auth, .int .i64 g.level] 35 (0, 0)) by rw [hw0]; exact heap_alloc_new _ _)
  have HE0 := Lib.hid (HE.out.below HB.out)
  clear hw0
  have x0 := cell_block HX.out 0
  have x1 := cell_block HX.out 1
  have x3 := cell_block HX.out 3
  have x8 := cell_block HX.out 8
  simp only [List.getElem?_toArray, List.getElem?_cons_zero, List.getElem?_cons_succ] at x0 x1 x3 x8
  go_wp2_with fail
  refine (rmade_yes HE0.out).mono ?_
  rintro e w1 ⟨rfl, rfl⟩
  go_wp2_with fail
  refine (limited_is now w0).mono ?_
  rintro e w1 ⟨rfl, rfl⟩
  go_wp2_with fail
  refine (rw_is i w0 hi true H0.out).mono ?_
  rintro e w1 ⟨rfl, rfl⟩
  go_wp2_with fail
  refine (rw_is t w0 ht true H1.out).mono ?_
  rintro e w1 ⟨rfl, rfl⟩
  go_wp2_with fail
  refine (rw_is g.user w0 hu false H2.out).mono ?_
  rintro e w1 ⟨rfl, rfl⟩
  go_wp2
  go_ret
  exact rnum_same HR.out HE.out HB.out
set_option maxRecDepth 100000 in
set_option maxHeartbeats 4000000 in
theorem rstart_5d {w : World} {S : Nat → Prop} {G : Nat} {st : St} (h : RefE w S G st) (i t : Bs) (g : Gr) (A : Option Addr) (n c : Nat) (now : Int) (hi : i.size ≤ 100000) (ht : t.size ≤ 100000) (hu : g.user.size ≤ 100000) (hcl : g.client.size ≤ 100000) (hse : g.session.size ≤ 100000)
    (hs : Ss w A n c g.scopes) (hsh : Short g.scopes) (hn : n ≤ 1000) (q0 : wrd i = true) (q1 : wrd t = true) (q2 : wrd g.user = true) (q3 : wrd g.client = false) (hr : start st i t g now = (st, 5)) :
    Calls Try.prog 34 #[.pointer (some ⟨G, 0, none⟩), .string i, .string t, .agg #[.string g.user, .string g.client, .string g.tenant, .string g.session, .string g.redirect, .string g.nonce, .string g.challenge, .int .i64 g.method, (.slice A n c), .int .i64 g.auth, .int .i64 g.level], .int .i64 now] w (RNumIs w S G (start st i t g now).2 (start st i t g now).1) := by
  have hz9 : True := (fun _ _ _ _ _ _ => trivial) hi ht hu hcl hse hn
  clear hz9
  have HR := Lib.hid hr
  have HS := Lib.hid hs
  have HSH := Lib.hid hsh
  have HE := Lib.hid h
  clear hr hs hsh h
  have H0 := Lib.hid q0
  have H1 := Lib.hid q1
  have H2 := Lib.hid q2
  have H3 := Lib.hid q3
  clear q0 q1 q2 q3
  go_enter Try.func34, Try.ntmps34
  go_upto_region 1 with fail
  obtain ⟨w0, hw0⟩ : ∃ w0, w0 = w.alloc (.cells #[.string g.user, .string g.client, .string g.tenant, .string g.session, .string g.redirect, .string g.nonce, .string g.challenge, .int .i64 g.method, (.slice A n c), .int .i64 g.auth, .int .i64 g.level] 35) := ⟨_, rfl⟩
  rw [← hw0]
  have HB := Lib.hid (show Below w.heap.size w w0 by rw [hw0]; go_grown)
  have HX := Lib.hid (show w0.heap[w.heap.size]? = some (.cells #[.string g.user, .string g.client, .string g.tenant, .string g.session, .string g.redirect, .string g.nonce, .string g.challenge, .int .i64 g.method, (.slice A n c), .int .i64 g.auth, .int .i64 g.level] 35 (0, 0)) by rw [hw0]; exact heap_alloc_new _ _)
  have HE0 := Lib.hid (HE.out.below HB.out)
  clear hw0
  have x0 := cell_block HX.out 0
  have x1 := cell_block HX.out 1
  have x3 := cell_block HX.out 3
  have x8 := cell_block HX.out 8
  simp only [List.getElem?_toArray, List.getElem?_cons_zero, List.getElem?_cons_succ] at x0 x1 x3 x8
  go_wp2_with fail
  refine (rmade_yes HE0.out).mono ?_
  rintro e w1 ⟨rfl, rfl⟩
  go_wp2_with fail
  refine (limited_is now w0).mono ?_
  rintro e w1 ⟨rfl, rfl⟩
  go_wp2_with fail
  refine (rw_is i w0 hi true H0.out).mono ?_
  rintro e w1 ⟨rfl, rfl⟩
  go_wp2_with fail
  refine (rw_is t w0 ht true H1.out).mono ?_
  rintro e w1 ⟨rfl, rfl⟩
  go_wp2_with fail
  refine (rw_is g.user w0 hu true H2.out).mono ?_
  rintro e w1 ⟨rfl, rfl⟩
  go_wp2_with fail
  refine (rw_is g.client w0 hcl false H3.out).mono ?_
  rintro e w1 ⟨rfl, rfl⟩
  go_wp2
  go_ret
  exact rnum_same HR.out HE.out HB.out
set_option maxRecDepth 100000 in
set_option maxHeartbeats 4000000 in
theorem rstart_5e {w : World} {S : Nat → Prop} {G : Nat} {st : St} (h : RefE w S G st) (i t : Bs) (g : Gr) (A : Option Addr) (n c : Nat) (now : Int) (hi : i.size ≤ 100000) (ht : t.size ≤ 100000) (hu : g.user.size ≤ 100000) (hcl : g.client.size ≤ 100000) (hse : g.session.size ≤ 100000)
    (hs : Ss w A n c g.scopes) (hsh : Short g.scopes) (hn : n ≤ 1000) (q0 : wrd i = true) (q1 : wrd t = true) (q2 : wrd g.user = true) (q3 : wrd g.client = true) (q4 : wrd g.session = false) (hr : start st i t g now = (st, 5)) :
    Calls Try.prog 34 #[.pointer (some ⟨G, 0, none⟩), .string i, .string t, .agg #[.string g.user, .string g.client, .string g.tenant, .string g.session, .string g.redirect, .string g.nonce, .string g.challenge, .int .i64 g.method, (.slice A n c), .int .i64 g.auth, .int .i64 g.level], .int .i64 now] w (RNumIs w S G (start st i t g now).2 (start st i t g now).1) := by
  have hz9 : True := (fun _ _ _ _ _ _ => trivial) hi ht hu hcl hse hn
  clear hz9
  have HR := Lib.hid hr
  have HS := Lib.hid hs
  have HSH := Lib.hid hsh
  have HE := Lib.hid h
  clear hr hs hsh h
  have H0 := Lib.hid q0
  have H1 := Lib.hid q1
  have H2 := Lib.hid q2
  have H3 := Lib.hid q3
  have H4 := Lib.hid q4
  clear q0 q1 q2 q3 q4
  go_enter Try.func34, Try.ntmps34
  go_upto_region 1 with fail
  obtain ⟨w0, hw0⟩ : ∃ w0, w0 = w.alloc (.cells #[.string g.user, .string g.client, .string g.tenant, .string g.session, .string g.redirect, .string g.nonce, .string g.challenge, .int .i64 g.method, (.slice A n c), .int .i64 g.auth, .int .i64 g.level] 35) := ⟨_, rfl⟩
  rw [← hw0]
  have HB := Lib.hid (show Below w.heap.size w w0 by rw [hw0]; go_grown)
  have HX := Lib.hid (show w0.heap[w.heap.size]? = some (.cells #[.string g.user, .string g.client, .string g.tenant, .string g.session, .string g.redirect, .string g.nonce, .string g.challenge, .int .i64 g.method, (.slice A n c), .int .i64 g.auth, .int .i64 g.level] 35 (0, 0)) by rw [hw0]; exact heap_alloc_new _ _)
  have HE0 := Lib.hid (HE.out.below HB.out)
  clear hw0
  have x0 := cell_block HX.out 0
  have x1 := cell_block HX.out 1
  have x3 := cell_block HX.out 3
  have x8 := cell_block HX.out 8
  simp only [List.getElem?_toArray, List.getElem?_cons_zero, List.getElem?_cons_succ] at x0 x1 x3 x8
  go_wp2_with fail
  refine (rmade_yes HE0.out).mono ?_
  rintro e w1 ⟨rfl, rfl⟩
  go_wp2_with fail
  refine (limited_is now w0).mono ?_
  rintro e w1 ⟨rfl, rfl⟩
  go_wp2_with fail
  refine (rw_is i w0 hi true H0.out).mono ?_
  rintro e w1 ⟨rfl, rfl⟩
  go_wp2_with fail
  refine (rw_is t w0 ht true H1.out).mono ?_
  rintro e w1 ⟨rfl, rfl⟩
  go_wp2_with fail
  refine (rw_is g.user w0 hu true H2.out).mono ?_
  rintro e w1 ⟨rfl, rfl⟩
  go_wp2_with fail
  refine (rw_is g.client w0 hcl true H3.out).mono ?_
  rintro e w1 ⟨rfl, rfl⟩
  go_wp2_with fail
  refine (rw_is g.session w0 hse false H4.out).mono ?_
  rintro e w1 ⟨rfl, rfl⟩
  go_wp2
  go_ret
  exact rnum_same HR.out HE.out HB.out
set_option maxRecDepth 100000 in
set_option maxHeartbeats 4000000 in
theorem rstart_c {w : World} {S : Nat → Prop} {G : Nat} {st : St} (h : RefE w S G st) (i t : Bs) (g : Gr) (A : Option Addr) (n c : Nat) (now : Int) (hi : i.size ≤ 100000) (ht : t.size ≤ 100000) (hu : g.user.size ≤ 100000) (hcl : g.client.size ≤ 100000) (hse : g.session.size ≤ 100000)
    (hs : Ss w A n c g.scopes) (hsh : Short g.scopes) (hn : n ≤ 1000) (q0 : wrd i = true) (q1 : wrd t = true) (q2 : wrd g.user = true) (q3 : wrd g.client = true) (q4 : wrd g.session = true) (k : Int) (q6 : chkS g.scopes = k) (q7 : k ≠ 0) (hr : start st i t g now = (st, k)) :
    Calls Try.prog 34 #[.pointer (some ⟨G, 0, none⟩), .string i, .string t, .agg #[.string g.user, .string g.client, .string g.tenant, .string g.session, .string g.redirect, .string g.nonce, .string g.challenge, .int .i64 g.method, (.slice A n c), .int .i64 g.auth, .int .i64 g.level], .int .i64 now] w (RNumIs w S G (start st i t g now).2 (start st i t g now).1) := by
  have hz9 : True := (fun _ _ _ _ _ _ => trivial) hi ht hu hcl hse hn
  clear hz9
  have HR := Lib.hid hr
  have HS := Lib.hid hs
  have HSH := Lib.hid hsh
  have HE := Lib.hid h
  clear hr hs hsh h
  have H0 := Lib.hid q0
  have H1 := Lib.hid q1
  have H2 := Lib.hid q2
  have H3 := Lib.hid q3
  have H4 := Lib.hid q4
  clear q0 q1 q2 q3 q4
  have H6 := Lib.hid q6
  have H7 := Lib.hid q7
  clear q6 q7
  go_enter Try.func34, Try.ntmps34
  go_upto_region 1 with fail
  obtain ⟨w0, hw0⟩ : ∃ w0, w0 = w.alloc (.cells #[.string g.user, .string g.client, .string g.tenant, .string g.session, .string g.redirect, .string g.nonce, .string g.challenge, .int .i64 g.method, (.slice A n c), .int .i64 g.auth, .int .i64 g.level] 35) := ⟨_, rfl⟩
  rw [← hw0]
  have HB := Lib.hid (show Below w.heap.size w w0 by rw [hw0]; go_grown)
  have HX := Lib.hid (show w0.heap[w.heap.size]? = some (.cells #[.string g.user, .string g.client, .string g.tenant, .string g.session, .string g.redirect, .string g.nonce, .string g.challenge, .int .i64 g.method, (.slice A n c), .int .i64 g.auth, .int .i64 g.level] 35 (0, 0)) by rw [hw0]; exact heap_alloc_new _ _)
  have HE0 := Lib.hid (HE.out.below HB.out)
  clear hw0
  have x0 := cell_block HX.out 0
  have x1 := cell_block HX.out 1
  have x3 := cell_block HX.out 3
  have x8 := cell_block HX.out 8
  simp only [List.getElem?_toArray, List.getElem?_cons_zero, List.getElem?_cons_succ] at x0 x1 x3 x8
  go_wp2_with fail
  refine (rmade_yes HE0.out).mono ?_
  rintro e w1 ⟨rfl, rfl⟩
  go_wp2_with fail
  refine (limited_is now w0).mono ?_
  rintro e w1 ⟨rfl, rfl⟩
  go_wp2_with fail
  refine (rw_is i w0 hi true H0.out).mono ?_
  rintro e w1 ⟨rfl, rfl⟩
  go_wp2_with fail
  refine (rw_is t w0 ht true H1.out).mono ?_
  rintro e w1 ⟨rfl, rfl⟩
  go_wp2_with fail
  refine (rw_is g.user w0 hu true H2.out).mono ?_
  rintro e w1 ⟨rfl, rfl⟩
  go_wp2_with fail
  refine (rw_is g.client w0 hcl true H3.out).mono ?_
  rintro e w1 ⟨rfl, rfl⟩
  go_wp2_with fail
  refine (rw_is g.session w0 hse true H4.out).mono ?_
  rintro e w1 ⟨rfl, rfl⟩
  go_wp2_with fail
  refine (rcheck_any A n c g.scopes w0 (HS.out.below HB.out) HSH.out (by omega)).mono ?_
  rintro e w1 ⟨rfl, hb1⟩
  have HB1 := Lib.hid (HB.out.trans (hb1.mono HB.out.size))
  have HE1 := Lib.hid (HE0.out.below hb1)
  have HX1 := Lib.hid (blk_below hb1 HX.out)
  clear hb1 x0 x1 x3 x8
  rw [H6.out]
  have hq7 := H7.out
  go_wp2
  go_ret
  exact rnum_same HR.out HE.out HB1.out
set_option maxRecDepth 100000 in
set_option maxHeartbeats 4000000 in
theorem rstart_7a {w : World} {S : Nat → Prop} {G : Nat} {st : St} (h : RefE w S G st) (i t : Bs) (g : Gr) (A : Option Addr) (n c : Nat) (now : Int) (hi : i.size ≤ 100000) (ht : t.size ≤ 100000) (hu : g.user.size ≤ 100000) (hcl : g.client.size ≤ 100000) (hse : g.session.size ≤ 100000)
    (hs : Ss w A n c g.scopes) (hsh : Short g.scopes) (hn : n ≤ 1000) (q0 : wrd i = true) (q1 : wrd t = true) (q2 : wrd g.user = true) (q3 : wrd g.client = true) (q4 : wrd g.session = true) (q6 : chkS g.scopes = 0) (a b : Nat) (q7 : findV st.l t = ((a : Int), (b : Int))) (hr : start st i t g now = (st, 7)) :
    Calls Try.prog 34 #[.pointer (some ⟨G, 0, none⟩), .string i, .string t, .agg #[.string g.user, .string g.client, .string g.tenant, .string g.session, .string g.redirect, .string g.nonce, .string g.challenge, .int .i64 g.method, (.slice A n c), .int .i64 g.auth, .int .i64 g.level], .int .i64 now] w (RNumIs w S G (start st i t g now).2 (start st i t g now).1) := by
  have hz9 : True := (fun _ _ _ _ _ _ => trivial) hi ht hu hcl hse hn
  clear hz9
  have HR := Lib.hid hr
  have HS := Lib.hid hs
  have HSH := Lib.hid hsh
  have HE := Lib.hid h
  clear hr hs hsh h
  have H0 := Lib.hid q0
  have H1 := Lib.hid q1
  have H2 := Lib.hid q2
  have H3 := Lib.hid q3
  have H4 := Lib.hid q4
  clear q0 q1 q2 q3 q4
  have H6 := Lib.hid q6
  have H7 := Lib.hid q7
  clear q6 q7
  go_enter Try.func34, Try.ntmps34
  go_upto_region 1 with fail
  obtain ⟨w0, hw0⟩ : ∃ w0, w0 = w.alloc (.cells #[.string g.user, .string g.client, .string g.tenant, .string g.session, .string g.redirect, .string g.nonce, .string g.challenge, .int .i64 g.method, (.slice A n c), .int .i64 g.auth, .int .i64 g.level] 35) := ⟨_, rfl⟩
  rw [← hw0]
  have HB := Lib.hid (show Below w.heap.size w w0 by rw [hw0]; go_grown)
  have HX := Lib.hid (show w0.heap[w.heap.size]? = some (.cells #[.string g.user, .string g.client, .string g.tenant, .string g.session, .string g.redirect, .string g.nonce, .string g.challenge, .int .i64 g.method, (.slice A n c), .int .i64 g.auth, .int .i64 g.level] 35 (0, 0)) by rw [hw0]; exact heap_alloc_new _ _)
  have HE0 := Lib.hid (HE.out.below HB.out)
  clear hw0
  have x0 := cell_block HX.out 0
  have x1 := cell_block HX.out 1
  have x3 := cell_block HX.out 3
  have x8 := cell_block HX.out 8
  simp only [List.getElem?_toArray, List.getElem?_cons_zero, List.getElem?_cons_succ] at x0 x1 x3 x8
  go_wp2_with fail
  refine (rmade_yes HE0.out).mono ?_
  rintro e w1 ⟨rfl, rfl⟩
  go_wp2_with fail
  refine (limited_is now w0).mono ?_
  rintro e w1 ⟨rfl, rfl⟩
  go_wp2_with fail
  refine (rw_is i w0 hi true H0.out).mono ?_
  rintro e w1 ⟨rfl, rfl⟩
  go_wp2_with fail
  refine (rw_is t w0 ht true H1.out).mono ?_
  rintro e w1 ⟨rfl, rfl⟩
  go_wp2_with fail
  refine (rw_is g.user w0 hu true H2.out).mono ?_
  rintro e w1 ⟨rfl, rfl⟩
  go_wp2_with fail
  refine (rw_is g.client w0 hcl true H3.out).mono ?_
  rintro e w1 ⟨rfl, rfl⟩
  go_wp2_with fail
  refine (rw_is g.session w0 hse true H4.out).mono ?_
  rintro e w1 ⟨rfl, rfl⟩
  go_wp2_with fail
  refine (rcheck_any A n c g.scopes w0 (HS.out.below HB.out) HSH.out (by omega)).mono ?_
  rintro e w1 ⟨rfl, hb1⟩
  have HB1 := Lib.hid (HB.out.trans (hb1.mono HB.out.size))
  have HE1 := Lib.hid (HE0.out.below hb1)
  have HX1 := Lib.hid (blk_below hb1 HX.out)
  clear hb1 x0 x1 x3 x8
  rw [H6.out]
  go_wp2_with fail
  refine (find_any HE1.out t).mono ?_
  rintro e w2 ⟨rfl, rfl⟩
  rw [H7.out]
  go_wp2
  go_ret
  exact rnum_same HR.out HE.out HB1.out
set_option maxRecDepth 100000 in
set_option maxHeartbeats 4000000 in
theorem rstart_7b {w : World} {S : Nat → Prop} {G : Nat} {st : St} (h : RefE w S G st) (i t : Bs) (g : Gr) (A : Option Addr) (n c : Nat) (now : Int) (hi : i.size ≤ 100000) (ht : t.size ≤ 100000) (hu : g.user.size ≤ 100000) (hcl : g.client.size ≤ 100000) (hse : g.session.size ≤ 100000)
    (hs : Ss w A n c g.scopes) (hsh : Short g.scopes) (hn : n ≤ 1000) (q0 : wrd i = true) (q1 : wrd t = true) (q2 : wrd g.user = true) (q3 : wrd g.client = true) (q4 : wrd g.session = true) (q6 : chkS g.scopes = 0) (q7 : findV st.l t = (-1, -1)) (a : Nat) (q8 : atV st.l i = (a : Int)) (hr : start st i t g now = (st, 7)) :
    Calls Try.prog 34 #[.pointer (some ⟨G, 0, none⟩), .string i, .string t, .agg #[.string g.user, .string g.client, .string g.tenant, .string g.session, .string g.redirect, .string g.nonce, .string g.challenge, .int .i64 g.method, (.slice A n c), .int .i64 g.auth, .int .i64 g.level], .int .i64 now] w (RNumIs w S G (start st i t g now).2 (start st i t g now).1) := by
  have hz9 : True := (fun _ _ _ _ _ _ => trivial) hi ht hu hcl hse hn
  clear hz9
  have HR := Lib.hid hr
  have HS := Lib.hid hs
  have HSH := Lib.hid hsh
  have HE := Lib.hid h
  clear hr hs hsh h
  have H0 := Lib.hid q0
  have H1 := Lib.hid q1
  have H2 := Lib.hid q2
  have H3 := Lib.hid q3
  have H4 := Lib.hid q4
  clear q0 q1 q2 q3 q4
  have H6 := Lib.hid q6
  have H7 := Lib.hid q7
  have H8 := Lib.hid q8
  clear q6 q7 q8
  go_enter Try.func34, Try.ntmps34
  go_upto_region 1 with fail
  obtain ⟨w0, hw0⟩ : ∃ w0, w0 = w.alloc (.cells #[.string g.user, .string g.client, .string g.tenant, .string g.session, .string g.redirect, .string g.nonce, .string g.challenge, .int .i64 g.method, (.slice A n c), .int .i64 g.auth, .int .i64 g.level] 35) := ⟨_, rfl⟩
  rw [← hw0]
  have HB := Lib.hid (show Below w.heap.size w w0 by rw [hw0]; go_grown)
  have HX := Lib.hid (show w0.heap[w.heap.size]? = some (.cells #[.string g.user, .string g.client, .string g.tenant, .string g.session, .string g.redirect, .string g.nonce, .string g.challenge, .int .i64 g.method, (.slice A n c), .int .i64 g.auth, .int .i64 g.level] 35 (0, 0)) by rw [hw0]; exact heap_alloc_new _ _)
  have HE0 := Lib.hid (HE.out.below HB.out)
  clear hw0
  have x0 := cell_block HX.out 0
  have x1 := cell_block HX.out 1
  have x3 := cell_block HX.out 3
  have x8 := cell_block HX.out 8
  simp only [List.getElem?_toArray, List.getElem?_cons_zero, List.getElem?_cons_succ] at x0 x1 x3 x8
  go_wp2_with fail
  refine (rmade_yes HE0.out).mono ?_
  rintro e w1 ⟨rfl, rfl⟩
  go_wp2_with fail
  refine (limited_is now w0).mono ?_
  rintro e w1 ⟨rfl, rfl⟩
  go_wp2_with fail
  refine (rw_is i w0 hi true H0.out).mono ?_
  rintro e w1 ⟨rfl, rfl⟩
  go_wp2_with fail
  refine (rw_is t w0 ht true H1.out).mono ?_
  rintro e w1 ⟨rfl, rfl⟩
  go_wp2_with fail
  refine (rw_is g.user w0 hu true H2.out).mono ?_
  rintro e w1 ⟨rfl, rfl⟩
  go_wp2_with fail
  refine (rw_is g.client w0 hcl true H3.out).mono ?_
  rintro e w1 ⟨rfl, rfl⟩
  go_wp2_with fail
  refine (rw_is g.session w0 hse true H4.out).mono ?_
  rintro e w1 ⟨rfl, rfl⟩
  go_wp2_with fail
  refine (rcheck_any A n c g.scopes w0 (HS.out.below HB.out) HSH.out (by omega)).mono ?_
  rintro e w1 ⟨rfl, hb1⟩
  have HB1 := Lib.hid (HB.out.trans (hb1.mono HB.out.size))
  have HE1 := Lib.hid (HE0.out.below hb1)
  have HX1 := Lib.hid (blk_below hb1 HX.out)
  clear hb1 x0 x1 x3 x8
  rw [H6.out]
  go_wp2_with fail
  refine (find_any HE1.out t).mono ?_
  rintro e w2 ⟨rfl, rfl⟩
  rw [H7.out]
  go_wp2_with fail
  refine (at_any HE1.out i).mono ?_
  rintro e w2 ⟨rfl, rfl⟩
  rw [H8.out]
  go_wp2
  go_ret
  exact rnum_same HR.out HE.out HB1.out
set_option maxRecDepth 100000 in
set_option maxHeartbeats 4000000 in
theorem rstart_3 {w : World} {S : Nat → Prop} {G : Nat} {st : St} (h : RefE w S G st) (i t : Bs) (g : Gr) (A : Option Addr) (n c : Nat) (now : Int) (hi : i.size ≤ 100000) (ht : t.size ≤ 100000) (hu : g.user.size ≤ 100000) (hcl : g.client.size ≤ 100000) (hse : g.session.size ≤ 100000)
    (hs : Ss w A n c g.scopes) (hsh : Short g.scopes) (hn : n ≤ 1000) (q0 : wrd i = true) (q1 : wrd t = true) (q2 : wrd g.user = true) (q3 : wrd g.client = true) (q4 : wrd g.session = true) (q6 : chkS g.scopes = 0) (q7 : findV st.l t = (-1, -1)) (q8 : atV st.l i = -1) (q9 : 256 ≤ st.l.length) (hr : start st i t g now = (st, 3)) :
    Calls Try.prog 34 #[.pointer (some ⟨G, 0, none⟩), .string i, .string t, .agg #[.string g.user, .string g.client, .string g.tenant, .string g.session, .string g.redirect, .string g.nonce, .string g.challenge, .int .i64 g.method, (.slice A n c), .int .i64 g.auth, .int .i64 g.level], .int .i64 now] w (RNumIs w S G (start st i t g now).2 (start st i t g now).1) := by
  have hz9 : True := (fun _ _ _ _ _ _ => trivial) hi ht hu hcl hse hn
  clear hz9
  have HR := Lib.hid hr
  have HS := Lib.hid hs
  have HSH := Lib.hid hsh
  have HE := Lib.hid h
  clear hr hs hsh h
  have H0 := Lib.hid q0
  have H1 := Lib.hid q1
  have H2 := Lib.hid q2
  have H3 := Lib.hid q3
  have H4 := Lib.hid q4
  clear q0 q1 q2 q3 q4
  have H6 := Lib.hid q6
  have H7 := Lib.hid q7
  have H8 := Lib.hid q8
  clear q6 q7 q8
  go_enter Try.func34, Try.ntmps34
  go_upto_region 1 with fail
  obtain ⟨w0, hw0⟩ : ∃ w0, w0 = w.alloc (.cells #[.string g.user, .string g.client, .string g.tenant, .string g.session, .string g.redirect, .string g.nonce, .string g.challenge, .int .i64 g.method, (.slice A n c), .int .i64 g.auth, .int .i64 g.level] 35) := ⟨_, rfl⟩
  rw [← hw0]
  have HB := Lib.hid (show Below w.heap.size w w0 by rw [hw0]; go_grown)
  have HX := Lib.hid (show w0.heap[w.heap.size]? = some (.cells #[.string g.user, .string g.client, .string g.tenant, .string g.session, .string g.redirect, .string g.nonce, .string g.challenge, .int .i64 g.method, (.slice A n c), .int .i64 g.auth, .int .i64 g.level] 35 (0, 0)) by rw [hw0]; exact heap_alloc_new _ _)
  have HE0 := Lib.hid (HE.out.below HB.out)
  clear hw0
  have x0 := cell_block HX.out 0
  have x1 := cell_block HX.out 1
  have x3 := cell_block HX.out 3
  have x8 := cell_block HX.out 8
  simp only [List.getElem?_toArray, List.getElem?_cons_zero, List.getElem?_cons_succ] at x0 x1 x3 x8
  go_wp2_with fail
  refine (rmade_yes HE0.out).mono ?_
  rintro e w1 ⟨rfl, rfl⟩
  go_wp2_with fail
  refine (limited_is now w0).mono ?_
  rintro e w1 ⟨rfl, rfl⟩
  go_wp2_with fail
  refine (rw_is i w0 hi true H0.out).mono ?_
  rintro e w1 ⟨rfl, rfl⟩
  go_wp2_with fail
  refine (rw_is t w0 ht true H1.out).mono ?_
  rintro e w1 ⟨rfl, rfl⟩
  go_wp2_with fail
  refine (rw_is g.user w0 hu true H2.out).mono ?_
  rintro e w1 ⟨rfl, rfl⟩
  go_wp2_with fail
  refine (rw_is g.client w0 hcl true H3.out).mono ?_
  rintro e w1 ⟨rfl, rfl⟩
  go_wp2_with fail
  refine (rw_is g.session w0 hse true H4.out).mono ?_
  rintro e w1 ⟨rfl, rfl⟩
  go_wp2_with fail
  refine (rcheck_any A n c g.scopes w0 (HS.out.below HB.out) HSH.out (by omega)).mono ?_
  rintro e w1 ⟨rfl, hb1⟩
  have HB1 := Lib.hid (HB.out.trans (hb1.mono HB.out.size))
  have HE1 := Lib.hid (HE0.out.below hb1)
  have HX1 := Lib.hid (blk_below hb1 HX.out)
  clear hb1 x0 x1 x3 x8
  rw [H6.out]
  go_wp2_with fail
  refine (find_any HE1.out t).mono ?_
  rintro e w2 ⟨rfl, rfl⟩
  rw [H7.out]
  go_wp2_with fail
  refine (at_any HE1.out i).mono ?_
  rintro e w2 ⟨rfl, rfl⟩
  rw [H8.out]
  obtain ⟨I, v, es, hp⟩ := HE1.out
  obtain ⟨A1, c1, rfl⟩ := hp.own.len
  have HP := Lib.hid hp
  have HLE := Lib.hid hp.len
  have c1' := cell_block hp.hG 1
  have c2' := cell_block hp.hG 2
  have c3' := cell_block hp.hG 3
  simp only [List.getElem?_toArray, List.getElem?_cons_zero, List.getElem?_cons_succ] at c1' c2' c3'
  clear hp
  have hlong : 256 ≤ es.length := by have := HLE.out; omega
  go_wp2
  go_ret
  exact rnum_same HR.out HE.out HB1.out
end Go.Proofs.Ytfeljihbaekfmaa.Rf
