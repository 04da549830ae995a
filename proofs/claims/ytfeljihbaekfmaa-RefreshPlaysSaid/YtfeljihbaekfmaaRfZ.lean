/-
  The statements' do: one call of the package.
-/
import Derived.Test.YtfeljihbaekfmaaRfY
import Derived.Laws.Tables
namespace Go.Proofs.Ytfeljihbaekfmaa.Rf
open Go.RowKit Go.Proofs.Ytfeljihbaekfmaa.Fo

/-- A grant and a number come back, the families have turned, and may have grown. -/
def DoIs (w : World) (S : Nat → Prop) (F : Nat) (r : St × (Gr × Int)) (e : Ending) (w' : World) : Prop :=
  ∃ A d, e = .returned (.tuple #[.agg #[.string r.2.1.user, .string r.2.1.client, .string r.2.1.tenant, .string r.2.1.session, .string r.2.1.redirect, .string r.2.1.nonce, .string r.2.1.challenge, .int .i64 r.2.1.method, (.slice A r.2.1.scopes.length d), .int .i64 r.2.1.auth, .int .i64 r.2.1.level], .int .i64 r.2.2]) ∧ Ss w' A r.2.1.scopes.length d r.2.1.scopes ∧ (∀ a, A = some a → 0 < r.2.1.scopes.length → w.heap.size ≤ a.block) ∧ RepE w' (grow S w w') F r.1 ∧ Mods S w w'
theorem do_no {w w' : World} {S : Nat → Prop} {F : Nat} {st : St} {k : Int} {r : St × (Gr × Int)} (hr : r = (st, (noG, k))) (h : RepE w S F st) (hb : Below w.heap.size w w') : DoIs w S F r (.returned (.tuple #[.agg #[.string ⟨#[]⟩, .string ⟨#[]⟩, .string ⟨#[]⟩, .string ⟨#[]⟩, .string ⟨#[]⟩, .string ⟨#[]⟩, .string ⟨#[]⟩, .int .i64 0, .slice none 0 0, .int .i64 0, .int .i64 0], .int .i64 k])) w' := by
  subst hr
  obtain ⟨_, h2, h3⟩ := num_same (r := (st, 0)) rfl h hb
  exact ⟨none, 0, rfl, Ss.nil _ _ _, (fun a h => by cases h), h2, h3⟩
theorem store_none {ops : Array Oper} {rest : List Oper} {o : Oper} {a : Act} {w : World} {Q : Exit → Act → World → Prop} (hgd : o.guard = none) (x y : Operand) (ho : o.op = .store 35 x y) (g : Nat) (hx : a.eval x = .pointer (some ⟨g, 0, none⟩)) (hy : a.eval y = .agg #[.string ⟨#[]⟩, .string ⟨#[]⟩, .string ⟨#[]⟩, .string ⟨#[]⟩, .string ⟨#[]⟩, .string ⟨#[]⟩, .string ⟨#[]⟩, .int .i64 0, .slice none 0 0, .int .i64 0, .int .i64 0]) (hz : w.heap[g]? = some (.cells #[.string ⟨#[]⟩, .string ⟨#[]⟩, .string ⟨#[]⟩, .string ⟨#[]⟩, .string ⟨#[]⟩, .string ⟨#[]⟩, .string ⟨#[]⟩, .int .i64 0, .slice none 0 0, .int .i64 0, .int .i64 0] 35 (0, 0))) (h : wpList Try.prog ops Q rest (a.put o.dst undef) w) : wpList Try.prog ops Q (o :: rest) a w :=
  wpList_store_row hgd 35 x y ho g #[.string ⟨#[]⟩, .string ⟨#[]⟩, .string ⟨#[]⟩, .string ⟨#[]⟩, .string ⟨#[]⟩, .string ⟨#[]⟩, .string ⟨#[]⟩, .int .i64 0, .slice none 0 0, .int .i64 0, .int .i64 0] hx hy 35 _ hz (by kernel_rfl) rfl (by kernel_rfl) (by rw [setRow_self _ _ _ _ _ hz]; exact h)
theorem store_noneO {o : Oper} {a : Act} {w : World} {K : Act → World → Prop} {Q : Exit → Act → World → Prop} (x y : Operand) (ho : o.op = .store 35 x y) (g : Nat) (hx : a.eval x = .pointer (some ⟨g, 0, none⟩)) (hy : a.eval y = .agg #[.string ⟨#[]⟩, .string ⟨#[]⟩, .string ⟨#[]⟩, .string ⟨#[]⟩, .string ⟨#[]⟩, .string ⟨#[]⟩, .string ⟨#[]⟩, .int .i64 0, .slice none 0 0, .int .i64 0, .int .i64 0]) (hz : w.heap[g]? = some (.cells #[.string ⟨#[]⟩, .string ⟨#[]⟩, .string ⟨#[]⟩, .string ⟨#[]⟩, .string ⟨#[]⟩, .string ⟨#[]⟩, .string ⟨#[]⟩, .int .i64 0, .slice none 0 0, .int .i64 0, .int .i64 0] 35 (0, 0))) (h : K (a.put o.dst undef) w) : o.wp Try.prog a w K Q :=
  wp_store_row 35 x y ho g #[.string ⟨#[]⟩, .string ⟨#[]⟩, .string ⟨#[]⟩, .string ⟨#[]⟩, .string ⟨#[]⟩, .string ⟨#[]⟩, .string ⟨#[]⟩, .int .i64 0, .slice none 0 0, .int .i64 0, .int .i64 0] hx hy 35 _ hz (by kernel_rfl) rfl (by kernel_rfl) (by rw [setRow_self _ _ _ _ _ hz]; exact h)
theorem rep_mods {w wx w' : World} {S : Nat → Prop} {F : Nat} {st : St} (hb : Below w.heap.size w wx) (h : RepE w' (grow S wx w') F st) (hm : Mods S wx w') : RepE w' (grow S w w') F st ∧ Mods S w w' :=
  ⟨h.keep (fun k e => by
      rcases e with e | e
      · exact Or.inl e
      · exact Or.inr ⟨by have := hb.size; omega, e.2⟩) (fun _ _ => rfl) (Nat.le_refl _) (fun k e => by
      rcases e with e | e
      · exact h.lt k (Or.inl e)
      · exact e.2), ⟨hm.os.trans hb.os, hm.tape.trans hb.tape, hm.output.trans hb.output, Nat.le_trans hb.size hm.size, fun k hk hn => (hm.block k (Nat.lt_of_lt_of_le hk hb.size) hn).trans (hb.block k hk)⟩⟩
theorem num_rot {w w' wx : World} {S : Nat → Prop} {F : Nat} {st' : St} {k : Int} {r : St × (Gr × Int)} (hr : r = (st', (noG, k))) (hb : Below w.heap.size w wx) (h : RepE w' (grow S wx w') F st') (hm : Mods S wx w') : DoIs w S F r (.returned (.tuple #[.agg #[.string ⟨#[]⟩, .string ⟨#[]⟩, .string ⟨#[]⟩, .string ⟨#[]⟩, .string ⟨#[]⟩, .string ⟨#[]⟩, .string ⟨#[]⟩, .int .i64 0, .slice none 0 0, .int .i64 0, .int .i64 0], .int .i64 k])) w' := by
  subst hr
  obtain ⟨h1, h2⟩ := rep_mods hb h hm
  exact ⟨none, 0, rfl, Ss.nil _ _ _, (fun a h => by cases h), h1, h2⟩
theorem ok_parts {x : Opx} (h : opOk x = true) : x.id.size ≤ 200 ∧ x.tok.size ≤ 200 ∧ x.nxt.size ≤ 200 ∧ x.user.size ≤ 200 ∧ x.cl.size ≤ 200 ∧ x.ses.size ≤ 200 ∧ x.sc.length ≤ 20 ∧ Short x.sc := by
  by_cases hq : x.id.size ≤ 200 ∧ x.tok.size ≤ 200 ∧ x.nxt.size ≤ 200 ∧ x.user.size ≤ 200 ∧ x.cl.size ≤ 200 ∧ x.ses.size ≤ 200 ∧ x.sc.length ≤ 20
  · obtain ⟨h1, h2, h3, h4, h5, h6, h7⟩ := hq
    refine ⟨h1, h2, h3, h4, h5, h6, h7, fun i hi => ?_⟩
    rw [opOk_yes ⟨h1, h2, h3, h4, h5, h6, h7⟩, List.all_eq_true] at h
    have := small_le.1 (h (sAt x.sc i) (List.mem_of_getElem? (i := i) (by rw [List.getElem?_eq_getElem hi, sAt_get])))
    omega
  · rw [opOk_no hq] at h; cases h
set_option maxRecDepth 100000 in
set_option maxHeartbeats 4000000 in
theorem do_3 {w : World} {S : Nat → Prop} {F : Nat} {st : St} (h : RepE w S F st) (x : Opx) (A : Option Addr) (d : Nat) (hs : Ss w A x.sc.length d x.sc) (hok : opOk x = true) (hm : MX w) (hBS : ∀ a, A = some a → 0 < x.sc.length → ¬ S a.block) (q0 : (x.call == 0) = false) (q1 : (x.call == 1) = false) (q2 : (x.call == 2) = false) (q3 : (x.call == 3) = true) (hr : doS st x = (endS (isSes x.ses) st, (noG, ((endN (isSes x.ses) st : Nat) : Int)))) :
    Calls Try.prog 13 #[.pointer (some ⟨F, 0, none⟩), .agg #[.int .i64 x.call, .int .i64 x.now, .string x.id, .string x.tok, .string x.nxt, .string x.user, .string x.cl, .string x.ses, .slice A x.sc.length d]] w (DoIs w S F (doS st x)) := by
  obtain ⟨z1, z2, z3, z4, z5, z6, z7, z8⟩ := ok_parts hok
  have HH := Lib.hid h
  have HS := Lib.hid hs
  have HM := Lib.hid hm
  have HBS := Lib.hid hBS
  have HR := Lib.hid hr
  have HZ8 := Lib.hid z8
  clear h hs hm hBS hr z8 hok
  go_enter Try.func13, Try.ntmps13
  go_upto_region 1 with fail
  obtain ⟨wx, hwx⟩ : ∃ wx, wx = (w.alloc (.cells #[.int .i64 x.call, .int .i64 x.now, .string x.id, .string x.tok, .string x.nxt, .string x.user, .string x.cl, .string x.ses, .slice A x.sc.length d] 39)).alloc (.cells #[.string ⟨#[]⟩, .string ⟨#[]⟩, .string ⟨#[]⟩, .string ⟨#[]⟩, .string ⟨#[]⟩, .string ⟨#[]⟩, .string ⟨#[]⟩, .int .i64 0, .slice none 0 0, .int .i64 0, .int .i64 0] 35) := ⟨_, rfl⟩
  rw [← hwx]
  have HBX := Lib.hid (show Below w.heap.size w wx by rw [hwx]; go_grown)
  have HX3 := Lib.hid (show wx.heap[w.heap.size]? = some (.cells #[.int .i64 x.call, .int .i64 x.now, .string x.id, .string x.tok, .string x.nxt, .string x.user, .string x.cl, .string x.ses, .slice A x.sc.length d] 39 (0, 0)) by rw [hwx]; rw [Below.heap_alloc _ _ _ (by simp)]; exact heap_alloc_new _ _)
  have HZX := Lib.hid (show wx.heap[w.heap.size + 1]? = some (.cells #[.string ⟨#[]⟩, .string ⟨#[]⟩, .string ⟨#[]⟩, .string ⟨#[]⟩, .string ⟨#[]⟩, .string ⟨#[]⟩, .string ⟨#[]⟩, .int .i64 0, .slice none 0 0, .int .i64 0, .int .i64 0] 35 (0, 0)) by
    rw [hwx]
    have e : w.heap.size + 1 = (w.alloc (.cells #[.int .i64 x.call, .int .i64 x.now, .string x.id, .string x.tok, .string x.nxt, .string x.user, .string x.cl, .string x.ses, .slice A x.sc.length d] 39)).heap.size := by simp
    rw [e]; exact heap_alloc_new _ _)
  have HHX := Lib.hid (HH.out.below HBX.out)
  have HLT := Lib.hid HH.out.lt
  clear hwx
  have x0 := cell_block HX3.out 0
  have x7 := cell_block HX3.out 7
  simp only [List.getElem?_toArray, List.getElem?_cons_zero, List.getElem?_cons_succ] at x0 x7
  go_wp2_with fail
  refine (revSes_any HHX.out x.ses).mono ?_
  rintro e w1 ⟨rfl, hr1, hm1⟩
  have HR1 := Lib.hid hr1
  have HM1 := Lib.hid hm1
  have HZ1 := Lib.hid ((HM1.out.block (w.heap.size + 1) (blk_lt HZX.out) (fun e => by have := HLT.out _ e; omega)).trans HZX.out)
  clear hr1 hm1
  go_wp2_with (refine store_none rfl (.tmp 4) (.tmp 59) rfl (w.heap.size + 1) rfl rfl HZ1.out ?_)
  obtain ⟨y0, y1, y2, y3, y4, y5, y6, y7, y8, y9, y10⟩ := cells11 HZ1.out
  refine bodyPost_ret (v := .tuple #[.agg #[.string ⟨#[]⟩, .string ⟨#[]⟩, .string ⟨#[]⟩, .string ⟨#[]⟩, .string ⟨#[]⟩, .string ⟨#[]⟩, .string ⟨#[]⟩, .int .i64 0, .slice none 0 0, .int .i64 0, .int .i64 0], .int .i64 ((endN (isSes x.ses) st : Nat) : Int)]) (by simp [results, Try.results13, go_sem, y0, y1, y2, y3, y4, y5, y6, y7, y8, y9, y10]) rfl ?_
  exact num_rot HR.out HBX.out HR1.out HM1.out
set_option maxRecDepth 100000 in
set_option maxHeartbeats 4000000 in
theorem do_4 {w : World} {S : Nat → Prop} {F : Nat} {st : St} (h : RepE w S F st) (x : Opx) (A : Option Addr) (d : Nat) (hs : Ss w A x.sc.length d x.sc) (hok : opOk x = true) (hm : MX w) (hBS : ∀ a, A = some a → 0 < x.sc.length → ¬ S a.block) (q0 : (x.call == 0) = false) (q1 : (x.call == 1) = false) (q2 : (x.call == 2) = false) (q3 : (x.call == 3) = false) (q4 : (x.call == 4) = true) (hr : doS st x = (endS (isUsr x.user) st, (noG, ((endN (isUsr x.user) st : Nat) : Int)))) :
    Calls Try.prog 13 #[.pointer (some ⟨F, 0, none⟩), .agg #[.int .i64 x.call, .int .i64 x.now, .string x.id, .string x.tok, .string x.nxt, .string x.user, .string x.cl, .string x.ses, .slice A x.sc.length d]] w (DoIs w S F (doS st x)) := by
  obtain ⟨z1, z2, z3, z4, z5, z6, z7, z8⟩ := ok_parts hok
  have HH := Lib.hid h
  have HS := Lib.hid hs
  have HM := Lib.hid hm
  have HBS := Lib.hid hBS
  have HR := Lib.hid hr
  have HZ8 := Lib.hid z8
  clear h hs hm hBS hr z8 hok
  go_enter Try.func13, Try.ntmps13
  go_upto_region 1 with fail
  obtain ⟨wx, hwx⟩ : ∃ wx, wx = (w.alloc (.cells #[.int .i64 x.call, .int .i64 x.now, .string x.id, .string x.tok, .string x.nxt, .string x.user, .string x.cl, .string x.ses, .slice A x.sc.length d] 39)).alloc (.cells #[.string ⟨#[]⟩, .string ⟨#[]⟩, .string ⟨#[]⟩, .string ⟨#[]⟩, .string ⟨#[]⟩, .string ⟨#[]⟩, .string ⟨#[]⟩, .int .i64 0, .slice none 0 0, .int .i64 0, .int .i64 0] 35) := ⟨_, rfl⟩
  rw [← hwx]
  have HBX := Lib.hid (show Below w.heap.size w wx by rw [hwx]; go_grown)
  have HX3 := Lib.hid (show wx.heap[w.heap.size]? = some (.cells #[.int .i64 x.call, .int .i64 x.now, .string x.id, .string x.tok, .string x.nxt, .string x.user, .string x.cl, .string x.ses, .slice A x.sc.length d] 39 (0, 0)) by rw [hwx]; rw [Below.heap_alloc _ _ _ (by simp)]; exact heap_alloc_new _ _)
  have HZX := Lib.hid (show wx.heap[w.heap.size + 1]? = some (.cells #[.string ⟨#[]⟩, .string ⟨#[]⟩, .string ⟨#[]⟩, .string ⟨#[]⟩, .string ⟨#[]⟩, .string ⟨#[]⟩, .string ⟨#[]⟩, .int .i64 0, .slice none 0 0, .int .i64 0, .int .i64 0] 35 (0, 0)) by
    rw [hwx]
    have e : w.heap.size + 1 = (w.alloc (.cells #[.int .i64 x.call, .int .i64 x.now, .string x.id, .string x.tok, .string x.nxt, .string x.user, .string x.cl, .string x.ses, .slice A x.sc.length d] 39)).heap.size := by simp
    rw [e]; exact heap_alloc_new _ _)
  have HHX := Lib.hid (HH.out.below HBX.out)
  have HLT := Lib.hid HH.out.lt
  clear hwx
  have x0 := cell_block HX3.out 0
  have x5 := cell_block HX3.out 5
  simp only [List.getElem?_toArray, List.getElem?_cons_zero, List.getElem?_cons_succ] at x0 x5
  go_wp2_with fail
  refine (revUsr_any HHX.out x.user).mono ?_
  rintro e w1 ⟨rfl, hr1, hm1⟩
  have HR1 := Lib.hid hr1
  have HM1 := Lib.hid hm1
  have HZ1 := Lib.hid ((HM1.out.block (w.heap.size + 1) (blk_lt HZX.out) (fun e => by have := HLT.out _ e; omega)).trans HZX.out)
  clear hr1 hm1
  go_wp2_with (refine store_none rfl (.tmp 4) (.tmp 66) rfl (w.heap.size + 1) rfl rfl HZ1.out ?_)
  obtain ⟨y0, y1, y2, y3, y4, y5, y6, y7, y8, y9, y10⟩ := cells11 HZ1.out
  refine bodyPost_ret (v := .tuple #[.agg #[.string ⟨#[]⟩, .string ⟨#[]⟩, .string ⟨#[]⟩, .string ⟨#[]⟩, .string ⟨#[]⟩, .string ⟨#[]⟩, .string ⟨#[]⟩, .int .i64 0, .slice none 0 0, .int .i64 0, .int .i64 0], .int .i64 ((endN (isUsr x.user) st : Nat) : Int)]) (by simp [results, Try.results13, go_sem, y0, y1, y2, y3, y4, y5, y6, y7, y8, y9, y10]) rfl ?_
  exact num_rot HR.out HBX.out HR1.out HM1.out
set_option maxRecDepth 100000 in
set_option maxHeartbeats 4000000 in
theorem do_5 {w : World} {S : Nat → Prop} {F : Nat} {st : St} (h : RepE w S F st) (x : Opx) (A : Option Addr) (d : Nat) (hs : Ss w A x.sc.length d x.sc) (hok : opOk x = true) (hm : MX w) (hBS : ∀ a, A = some a → 0 < x.sc.length → ¬ S a.block) (q0 : (x.call == 0) = false) (q1 : (x.call == 1) = false) (q2 : (x.call == 2) = false) (q3 : (x.call == 3) = false) (q4 : (x.call == 4) = false) (q5 : (x.call == 5) = true) (hr : doS st x = (endS (isCli x.user x.cl) st, (noG, ((endN (isCli x.user x.cl) st : Nat) : Int)))) :
    Calls Try.prog 13 #[.pointer (some ⟨F, 0, none⟩), .agg #[.int .i64 x.call, .int .i64 x.now, .string x.id, .string x.tok, .string x.nxt, .string x.user, .string x.cl, .string x.ses, .slice A x.sc.length d]] w (DoIs w S F (doS st x)) := by
  obtain ⟨z1, z2, z3, z4, z5, z6, z7, z8⟩ := ok_parts hok
  have HH := Lib.hid h
  have HS := Lib.hid hs
  have HM := Lib.hid hm
  have HBS := Lib.hid hBS
  have HR := Lib.hid hr
  have HZ8 := Lib.hid z8
  clear h hs hm hBS hr z8 hok
  go_enter Try.func13, Try.ntmps13
  go_upto_region 1 with fail
  obtain ⟨wx, hwx⟩ : ∃ wx, wx = (w.alloc (.cells #[.int .i64 x.call, .int .i64 x.now, .string x.id, .string x.tok, .string x.nxt, .string x.user, .string x.cl, .string x.ses, .slice A x.sc.length d] 39)).alloc (.cells #[.string ⟨#[]⟩, .string ⟨#[]⟩, .string ⟨#[]⟩, .string ⟨#[]⟩, .string ⟨#[]⟩, .string ⟨#[]⟩, .string ⟨#[]⟩, .int .i64 0, .slice none 0 0, .int .i64 0, .int .i64 0] 35) := ⟨_, rfl⟩
  rw [← hwx]
  have HBX := Lib.hid (show Below w.heap.size w wx by rw [hwx]; go_grown)
  have HX3 := Lib.hid (show wx.heap[w.heap.size]? = some (.cells #[.int .i64 x.call, .int .i64 x.now, .string x.id, .string x.tok, .string x.nxt, .string x.user, .string x.cl, .string x.ses, .slice A x.sc.length d] 39 (0, 0)) by rw [hwx]; rw [Below.heap_alloc _ _ _ (by simp)]; exact heap_alloc_new _ _)
  have HZX := Lib.hid (show wx.heap[w.heap.size + 1]? = some (.cells #[.string ⟨#[]⟩, .string ⟨#[]⟩, .string ⟨#[]⟩, .string ⟨#[]⟩, .string ⟨#[]⟩, .string ⟨#[]⟩, .string ⟨#[]⟩, .int .i64 0, .slice none 0 0, .int .i64 0, .int .i64 0] 35 (0, 0)) by
    rw [hwx]
    have e : w.heap.size + 1 = (w.alloc (.cells #[.int .i64 x.call, .int .i64 x.now, .string x.id, .string x.tok, .string x.nxt, .string x.user, .string x.cl, .string x.ses, .slice A x.sc.length d] 39)).heap.size := by simp
    rw [e]; exact heap_alloc_new _ _)
  have HHX := Lib.hid (HH.out.below HBX.out)
  have HLT := Lib.hid HH.out.lt
  clear hwx
  have x0 := cell_block HX3.out 0
  have x5 := cell_block HX3.out 5
  have x6 := cell_block HX3.out 6
  simp only [List.getElem?_toArray, List.getElem?_cons_zero, List.getElem?_cons_succ] at x0 x5 x6
  go_wp2_with fail
  refine (revCli_any HHX.out x.user x.cl).mono ?_
  rintro e w1 ⟨rfl, hr1, hm1⟩
  have HR1 := Lib.hid hr1
  have HM1 := Lib.hid hm1
  have HZ1 := Lib.hid ((HM1.out.block (w.heap.size + 1) (blk_lt HZX.out) (fun e => by have := HLT.out _ e; omega)).trans HZX.out)
  clear hr1 hm1
  go_wp2_with (refine store_none rfl (.tmp 4) (.tmp 73) rfl (w.heap.size + 1) rfl rfl HZ1.out ?_)
  obtain ⟨y0, y1, y2, y3, y4, y5, y6, y7, y8, y9, y10⟩ := cells11 HZ1.out
  refine bodyPost_ret (v := .tuple #[.agg #[.string ⟨#[]⟩, .string ⟨#[]⟩, .string ⟨#[]⟩, .string ⟨#[]⟩, .string ⟨#[]⟩, .string ⟨#[]⟩, .string ⟨#[]⟩, .int .i64 0, .slice none 0 0, .int .i64 0, .int .i64 0], .int .i64 ((endN (isCli x.user x.cl) st : Nat) : Int)]) (by simp [results, Try.results13, go_sem, y0, y1, y2, y3, y4, y5, y6, y7, y8, y9, y10]) rfl ?_
  exact num_rot HR.out HBX.out HR1.out HM1.out
set_option maxRecDepth 100000 in
set_option maxHeartbeats 4000000 in
theorem do_2 {w : World} {S : Nat → Prop} {F : Nat} {st : St} (h : RepE w S F st) (x : Opx) (A : Option Addr) (d : Nat) (hs : Ss w A x.sc.length d x.sc) (hok : opOk x = true) (hm : MX w) (hBS : ∀ a, A = some a → 0 < x.sc.length → ¬ S a.block) (q0 : (x.call == 0) = false) (q1 : (x.call == 1) = false) (q2 : (x.call == 2) = true) (hr : doS st x = (endS (isId x.id) st, (noG, if decide (endN (isId x.id) st = 1) then 1 else 0))) :
    Calls Try.prog 13 #[.pointer (some ⟨F, 0, none⟩), .agg #[.int .i64 x.call, .int .i64 x.now, .string x.id, .string x.tok, .string x.nxt, .string x.user, .string x.cl, .string x.ses, .slice A x.sc.length d]] w (DoIs w S F (doS st x)) := by
  obtain ⟨z1, z2, z3, z4, z5, z6, z7, z8⟩ := ok_parts hok
  have HH := Lib.hid h
  have HS := Lib.hid hs
  have HM := Lib.hid hm
  have HBS := Lib.hid hBS
  have HR := Lib.hid hr
  have HZ8 := Lib.hid z8
  clear h hs hm hBS hr z8 hok
  go_enter Try.func13, Try.ntmps13
  go_upto_region 1 with fail
  obtain ⟨wx, hwx⟩ : ∃ wx, wx = (w.alloc (.cells #[.int .i64 x.call, .int .i64 x.now, .string x.id, .string x.tok, .string x.nxt, .string x.user, .string x.cl, .string x.ses, .slice A x.sc.length d] 39)).alloc (.cells #[.string ⟨#[]⟩, .string ⟨#[]⟩, .string ⟨#[]⟩, .string ⟨#[]⟩, .string ⟨#[]⟩, .string ⟨#[]⟩, .string ⟨#[]⟩, .int .i64 0, .slice none 0 0, .int .i64 0, .int .i64 0] 35) := ⟨_, rfl⟩
  rw [← hwx]
  have HBX := Lib.hid (show Below w.heap.size w wx by rw [hwx]; go_grown)
  have HX3 := Lib.hid (show wx.heap[w.heap.size]? = some (.cells #[.int .i64 x.call, .int .i64 x.now, .string x.id, .string x.tok, .string x.nxt, .string x.user, .string x.cl, .string x.ses, .slice A x.sc.length d] 39 (0, 0)) by rw [hwx]; rw [Below.heap_alloc _ _ _ (by simp)]; exact heap_alloc_new _ _)
  have HZX := Lib.hid (show wx.heap[w.heap.size + 1]? = some (.cells #[.string ⟨#[]⟩, .string ⟨#[]⟩, .string ⟨#[]⟩, .string ⟨#[]⟩, .string ⟨#[]⟩, .string ⟨#[]⟩, .string ⟨#[]⟩, .int .i64 0, .slice none 0 0, .int .i64 0, .int .i64 0] 35 (0, 0)) by
    rw [hwx]
    have e : w.heap.size + 1 = (w.alloc (.cells #[.int .i64 x.call, .int .i64 x.now, .string x.id, .string x.tok, .string x.nxt, .string x.user, .string x.cl, .string x.ses, .slice A x.sc.length d] 39)).heap.size := by simp
    rw [e]; exact heap_alloc_new _ _)
  have HHX := Lib.hid (HH.out.below HBX.out)
  have HLT := Lib.hid HH.out.lt
  clear hwx
  have x0 := cell_block HX3.out 0
  have x2 := cell_block HX3.out 2
  simp only [List.getElem?_toArray, List.getElem?_cons_zero, List.getElem?_cons_succ] at x0 x2
  go_wp2_with fail
  refine (revoke_any HHX.out x.id).mono ?_
  rintro e w1 ⟨rfl, hr1, hm1⟩
  have HR1 := Lib.hid hr1
  have HM1 := Lib.hid hm1
  have HZ1 := Lib.hid ((HM1.out.block (w.heap.size + 1) (blk_lt HZX.out) (fun e => by have := HLT.out _ e; omega)).trans HZX.out)
  clear hr1 hm1
  obtain ⟨k, hk⟩ : ∃ k : Int, k = (if decide (endN (isId x.id) st = 1) then 1 else 0) := ⟨_, rfl⟩
  have HK := Lib.hid hk
  clear hk
  generalize hbv : decide (endN (isId x.id) st = 1) = bv at *
  have HBV := Lib.hid hbv
  clear hbv
  go_wp2_with (first | (refine store_none rfl (.tmp 4) (.tmp 51) rfl (w.heap.size + 1) rfl rfl HZ1.out ?_) | (go_at_call 33; refine (yes_any _ _).mono ?_; rintro e w2 ⟨rfl, rfl⟩; rw [← HK.out]))
  obtain ⟨y0, y1, y2, y3, y4, y5, y6, y7, y8, y9, y10⟩ := cells11 HZ1.out
  refine bodyPost_ret (v := .tuple #[.agg #[.string ⟨#[]⟩, .string ⟨#[]⟩, .string ⟨#[]⟩, .string ⟨#[]⟩, .string ⟨#[]⟩, .string ⟨#[]⟩, .string ⟨#[]⟩, .int .i64 0, .slice none 0 0, .int .i64 0, .int .i64 0], .int .i64 k]) (by simp [results, Try.results13, go_sem, y0, y1, y2, y3, y4, y5, y6, y7, y8, y9, y10]) rfl ?_
  exact num_rot (by rw [HR.out, HK.out]) HBX.out HR1.out HM1.out
set_option maxRecDepth 100000 in
set_option maxHeartbeats 4000000 in
theorem do_6 {w : World} {S : Nat → Prop} {F : Nat} {st : St} (h : RepE w S F st) (x : Opx) (A : Option Addr) (d : Nat) (hs : Ss w A x.sc.length d x.sc) (hok : opOk x = true) (hm : MX w) (hBS : ∀ a, A = some a → 0 < x.sc.length → ¬ S a.block) (q0 : (x.call == 0) = false) (q1 : (x.call == 1) = false) (q2 : (x.call == 2) = false) (q3 : (x.call == 3) = false) (q4 : (x.call == 4) = false) (q5 : (x.call == 5) = false) (hr : doS st x = (st, (noG, if liveI st x.id x.now then 1 else 0))) :
    Calls Try.prog 13 #[.pointer (some ⟨F, 0, none⟩), .agg #[.int .i64 x.call, .int .i64 x.now, .string x.id, .string x.tok, .string x.nxt, .string x.user, .string x.cl, .string x.ses, .slice A x.sc.length d]] w (DoIs w S F (doS st x)) := by
  obtain ⟨z1, z2, z3, z4, z5, z6, z7, z8⟩ := ok_parts hok
  have HH := Lib.hid h
  have HS := Lib.hid hs
  have HM := Lib.hid hm
  have HBS := Lib.hid hBS
  have HR := Lib.hid hr
  have HZ8 := Lib.hid z8
  clear h hs hm hBS hr z8 hok
  go_enter Try.func13, Try.ntmps13
  go_upto_region 1 with fail
  obtain ⟨wx, hwx⟩ : ∃ wx, wx = (w.alloc (.cells #[.int .i64 x.call, .int .i64 x.now, .string x.id, .string x.tok, .string x.nxt, .string x.user, .string x.cl, .string x.ses, .slice A x.sc.length d] 39)).alloc (.cells #[.string ⟨#[]⟩, .string ⟨#[]⟩, .string ⟨#[]⟩, .string ⟨#[]⟩, .string ⟨#[]⟩, .string ⟨#[]⟩, .string ⟨#[]⟩, .int .i64 0, .slice none 0 0, .int .i64 0, .int .i64 0] 35) := ⟨_, rfl⟩
  rw [← hwx]
  have HBX := Lib.hid (show Below w.heap.size w wx by rw [hwx]; go_grown)
  have HX3 := Lib.hid (show wx.heap[w.heap.size]? = some (.cells #[.int .i64 x.call, .int .i64 x.now, .string x.id, .string x.tok, .string x.nxt, .string x.user, .string x.cl, .string x.ses, .slice A x.sc.length d] 39 (0, 0)) by rw [hwx]; rw [Below.heap_alloc _ _ _ (by simp)]; exact heap_alloc_new _ _)
  have HZX := Lib.hid (show wx.heap[w.heap.size + 1]? = some (.cells #[.string ⟨#[]⟩, .string ⟨#[]⟩, .string ⟨#[]⟩, .string ⟨#[]⟩, .string ⟨#[]⟩, .string ⟨#[]⟩, .string ⟨#[]⟩, .int .i64 0, .slice none 0 0, .int .i64 0, .int .i64 0] 35 (0, 0)) by
    rw [hwx]
    have e : w.heap.size + 1 = (w.alloc (.cells #[.int .i64 x.call, .int .i64 x.now, .string x.id, .string x.tok, .string x.nxt, .string x.user, .string x.cl, .string x.ses, .slice A x.sc.length d] 39)).heap.size := by simp
    rw [e]; exact heap_alloc_new _ _)
  have HHX := Lib.hid (HH.out.below HBX.out)
  have HLT := Lib.hid HH.out.lt
  clear hwx
  have x0 := cell_block HX3.out 0
  have x1 := cell_block HX3.out 1
  have x2 := cell_block HX3.out 2
  simp only [List.getElem?_toArray, List.getElem?_cons_zero, List.getElem?_cons_succ] at x0 x1 x2
  obtain ⟨k, hk⟩ : ∃ k : Int, k = (if liveI st x.id x.now then 1 else 0) := ⟨_, rfl⟩
  have HK := Lib.hid hk
  clear hk
  go_wp2_with fail
  refine (live_any HHX.out x.id (by omega) x.now).mono ?_
  rintro e w1 ⟨rfl, hb1⟩
  generalize hbv : liveI st x.id x.now = bv at *
  have HBV := Lib.hid hbv
  clear hbv
  have HB1 := Lib.hid hb1
  have HZ1 := Lib.hid ((HB1.out.block (w.heap.size + 1) (blk_lt HZX.out)).trans HZX.out)
  clear hb1
  go_wp2_with (first | (refine store_none rfl (.tmp 4) (.tmp 80) rfl (w.heap.size + 1) rfl rfl HZ1.out ?_) | (go_at_call 33; refine (yes_any _ _).mono ?_; rintro e w2 ⟨rfl, rfl⟩; rw [← HK.out]))
  obtain ⟨y0, y1, y2, y3, y4, y5, y6, y7, y8, y9, y10⟩ := cells11 HZ1.out
  refine bodyPost_ret (v := .tuple #[.agg #[.string ⟨#[]⟩, .string ⟨#[]⟩, .string ⟨#[]⟩, .string ⟨#[]⟩, .string ⟨#[]⟩, .string ⟨#[]⟩, .string ⟨#[]⟩, .int .i64 0, .slice none 0 0, .int .i64 0, .int .i64 0], .int .i64 k]) (by simp [results, Try.results13, go_sem, y0, y1, y2, y3, y4, y5, y6, y7, y8, y9, y10]) rfl ?_
  exact do_no (by rw [HR.out, HK.out]) HH.out (HBX.out.trans (HB1.out.mono HBX.out.size))
end Go.Proofs.Ytfeljihbaekfmaa.Rf
