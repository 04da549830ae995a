/-
  The reference: a code is recorded.
-/
import Derived.Test.YtioabjniipkncaaGreatDoorQcG
namespace Go.Proofs.YtioabjniipkncaaGreatDoor.Rc
open Go.RowKit Go.Proofs.YtioabjniipkncaaGreatDoor.Fo Go.Proofs.YtioabjniipkncaaGreatDoor.Rf Go.Maps

/-- A slice of one code is built. -/
theorem wp_build16 {w : World} {o : Oper} {a : Act} {K : Act → World → Prop} {Q : Exit → Act → World → Prop} (p : Operand) (ho : o.op = .buildSlice 58 1 #[(0, p)]) (e : CdE) (hp : a.eval p = .agg (fl16 e).toArray)
    (h : K (a.put o.dst (.slice (some ⟨w.heap.size, 0, none⟩) 1 1)) (w.alloc (.cells (fl16 e).toArray 74))) : o.wp Tryz.prog a w K Q := by
  obtain ⟨i0, hi, hz0, hz1, hz2⟩ := info_parts code_info
  refine wp_buildSlice _ 74 1 #[(0, p)] ho (fl16 e).toArray i0 _ Tryz.underlying58 hi hz0 (by rw [hz1]; decide) (by rw [hz1]; decide) ?_ h
  rw [hz1]
  simp only [List.map_toArray, List.map_cons, List.map_nil, hp]
  exact fill16 _ (by simp) e
theorem build16 (t u c te se rd no ch : Bs) (m : Int) (B : Option Addr) (n dd : Nat) (au lv f : Int) (w : World) : (Instr.build 74 #[(0, .string t), (1, .agg #[.string u, .string c, .string te, .string se, .string rd, .string no, .string ch, .int .i64 m, .slice B n dd, .int .i64 au, .int .i64 lv]), (2, .int .i64 f)]).run Tryz.prog w = .ok (.agg #[.string t, .string u, .string c, .string te, .string se, .string rd, .string no, .string ch, .int .i64 m, .slice B n dd, .int .i64 au, .int .i64 lv, .int .i64 f, .bool false, .bool false, .bool false]) w := run_build w 74 _ _ (by kernel_rfl)
theorem yields_build16 {ops : Array Oper} {S : World → Prop} {o : Oper} {a : Act} (hw : Region.wanted o (yielded ops a.tmps) = true) (p0 p1 p2 : Operand) (ho : o.op = .build 74 #[(0, p0), (1, p1), (2, p2)]) (t u c te se rd no ch : Bs) (m : Int) (B : Option Addr) (n dd : Nat) (au lv f : Int) (h0 : a.eval p0 = .string t) (h1 : a.eval p1 = .agg #[.string u, .string c, .string te, .string se, .string rd, .string no, .string ch, .int .i64 m, .slice B n dd, .int .i64 au, .int .i64 lv]) (h2 : a.eval p2 = .int .i64 f) :
    YieldsIf Tryz.prog ops S o (.agg #[.string t, .string u, .string c, .string te, .string se, .string rd, .string no, .string ch, .int .i64 m, .slice B n dd, .int .i64 au, .int .i64 lv, .int .i64 f, .bool false, .bool false, .bool false]) a :=
  .inl ⟨hw, fun w _ => by
    unfold execOp
    simp only [ho, List.map_toArray, List.map_cons, List.map_nil, h0, h1, h2, Sem.run_bind, build16 t u c te se rd no ch m B n dd au lv f w, Result.andThen_ok, Sem.run_pure]⟩
theorem ss_block {w : World} {A : Option Addr} {n c : Nat} {l : List Bs} (h : Ss w A n c l) {a : Addr} (ha : A = some a) (hn : 0 < n) : a.block < w.heap.size := ss_lt h a ha hn
theorem mods_pre {w w1 w2 : World} {S : Nat → Prop} (hb : Below w.heap.size w w1) (h : Mods S w1 w2) : Mods S w w2 := ⟨h.os.trans hb.os, h.tape.trans hb.tape, h.output.trans hb.output, Nat.le_trans hb.size h.size, fun k hk hn => (h.block k (Nat.lt_of_lt_of_le hk hb.size) hn).trans (hb.block k hk)⟩
theorem below_nil {w w1 : World} (hg : w.grownBy w1 none) : Below w.heap.size w w1 := by
  obtain ⟨h1, h2, h3, h4, h5⟩ := hg
  exact ⟨h1, h2, h3, h4, fun k hk => h5 k hk (fun e => by cases e)⟩
theorem below_new {w w1 : World} {o : Obj} (hb : Below w.heap.size w (w.alloc o)) (hg : (w.alloc o).grownBy w1 (some w.heap.size)) : Below w.heap.size w w1 := by
  obtain ⟨h1, h2, h3, h4, h5⟩ := hg
  exact ⟨h1.trans hb.os, h2.trans hb.tape, h3.trans hb.output, Nat.le_trans hb.size h4, fun k hk => (h5 k (Nat.lt_of_lt_of_le hk hb.size) (fun e => by injection e with e; omega)).trans (hb.block k hk)⟩
theorem issE_c {st : Ct} {t : Bs} {g : Gr} (h : ¬ (wrd t = false ∨ wrd g.user = false ∨ wrd g.client = false ∨ wrd g.tenant = false ∨ wrd g.session = false)) (h2 : cdI st.l t = none) : issE st t g = if ckG g ≠ 0 then ckG g else if 256 ≤ st.l.length then 3 else 0 := by unfold issE; rw [if_neg h, if_neg (by rw [h2]; simp)]
theorem issE_k {st : Ct} {t : Bs} {g : Gr} {k : Int} (h : issE st t g = if ckG g ≠ 0 then ckG g else if 256 ≤ st.l.length then 3 else 0) (hc : ckG g = k) (hk : k ≠ 0) : issE st t g = k := by rw [h, hc, if_pos hk]
theorem issE_0 {st : Ct} {t : Bs} {g : Gr} (h : issE st t g = if ckG g ≠ 0 then ckG g else if 256 ≤ st.l.length then 3 else 0) (hc : ckG g = 0) : issE st t g = if 256 ≤ st.l.length then 3 else 0 := by rw [h, hc, if_neg (by decide)]
theorem ckG_4 {g : Gr} (h : frmG g = false) : ckG g = 4 := by unfold ckG; rw [if_pos h]
theorem ckG_s {g : Gr} {k : Int} (h : frmG g = true) (hc : chkS g.scopes = k) (hk : k ≠ 0) : ckG g = k := by unfold ckG; rw [if_neg (by rw [h]; decide), if_pos (by rw [hc]; exact hk), hc]
theorem ckG_27 {g : Gr} {lv : Int} (h : frmG g = true) (hc : chkS g.scopes = 0) (hl : g.level = lv) (h2 : lv < 0 ∨ 3 < lv) : ckG g = 27 := by unfold ckG; rw [if_neg (by rw [h]; decide), if_neg (by rw [hc]; decide), if_pos (by rw [hl]; exact h2)]
theorem ckG_2 {g : Gr} {lv au : Int} (h : frmG g = true) (hc : chkS g.scopes = 0) (hl : g.level = lv) (h2 : ¬ (lv < 0 ∨ 3 < lv)) (ha : g.auth = au) (h3 : au < 0 ∨ 1099511627776 < au) : ckG g = 2 := by unfold ckG; rw [if_neg (by rw [h]; decide), if_neg (by rw [hc]; decide), if_neg (by rw [hl]; exact h2), ha, if_pos (by unfold limI; omega)]
theorem ckG_0 {g : Gr} {lv au : Int} (h : frmG g = true) (hc : chkS g.scopes = 0) (hl : g.level = lv) (h2 : ¬ (lv < 0 ∨ 3 < lv)) (ha : g.auth = au) (h3 : ¬ (au < 0 ∨ 1099511627776 < au)) : ckG g = 0 := by unfold ckG; rw [if_neg (by rw [h]; decide), if_neg (by rw [hc]; decide), if_neg (by rw [hl]; exact h2), ha, if_neg (by unfold limI; omega)]
theorem iss_err {st : Ct} {t : Bs} {g : Gr} {now k : Int} (h : issE st t g = k) (hk : k ≠ 0) : iss st t g now = (st, k) := by unfold iss; rw [h, if_neg hk]
theorem riss_same {w w' : World} {S : Nat → Prop} {G : Nat} {st st' : Ct} {r k q : Int} {t : Bs} {g : Gr} {now : Int} (hq : iss st t g now = (st', k)) (he : issE st t g = q) (hne : q ≠ 0) (hr : r = q) (h : RefE w S G st) (hb : Below w.heap.size w w') :
    Ending.returned (.int .i64 r) = .returned (.int .i64 k) ∧ RefE w' (Go.Proofs.YtioabjniipkncaaGreatDoor.grow S w w') G st' ∧ Mods S w w' := by
  rw [iss_err he hne] at hq
  obtain ⟨q1, q2⟩ := Prod.mk.inj hq
  subst hr
  rw [← q1, ← q2]
  exact ⟨rfl, rref_grow w (h.below hb), Mods.of_below _ hb⟩
set_option maxHeartbeats 1000000 in
theorem riss_fin {w w4 w5 w6 w7 : World} {S I : Nat → Prop} {G dd base : Nat} {st3 : Ct} {v v6 : Value} {es : List CdE} {x : Cd} {B : Option Addr} (hP : RefP w4 S I G st3 v es) (hlt : ∀ k, S k → k < w.heap.size) (hM : Mods S w w4) (hwb : w.heap.size ≤ base) (hO : Own1 w4 base (.slice B x.g.scopes.length dd) x.g.scopes)
    (h5 : w5 = w4.drew.alloc (.cells (fl16 (x, B, dd)).toArray 74)) (hO6 : OwnR w6 v6 (es ++ [(x, B, dd)])) (hg6 : w5.grownBy w6 v.ownBlock) (hv6 : v6.ownBlock = v.ownBlock ∨ v6.ownBlock = some w5.heap.size) (h7 : w7 = w6.setCell ⟨G, 1, none⟩ v6) (hinv : Inv { st3 with l := st3.l ++ [x] }) :
    RefE w7 (Go.Proofs.YtioabjniipkncaaGreatDoor.grow S w w7) G { st3 with l := st3.l ++ [x] } ∧ Mods S w w7 := by
  have hb5 : Below w4.heap.size w4 w5 := by rw [h5]; go_grown
  have z5 : w5.heap.size = w4.heap.size + 1 := by rw [h5]; simp
  have hz4 := hM.size
  have hz6 := hg6.size
  have hz7 : w7.heap.size = w6.heap.size := by rw [h7]; simp only [sc_size]
  have hG3 := hlt G hP.sG.1
  have hvl : ∀ g, v.ownBlock = some g → g < w.heap.size ∧ g ≠ G := fun g hg => ⟨hlt g (hP.sv g hg).1, (hP.sv g hg).2.2⟩
  have hk6 : ∀ k, k < w4.heap.size → ¬ v.ownBlock = some k → w6.heap[k]? = w4.heap[k]? := fun k hk hn => (hg6.block k (by omega) (fun e => hn e.symm)).trans (hb5.block k hk)
  have hk7 : ∀ k, k < w4.heap.size → ¬ v.ownBlock = some k → k ≠ G → w7.heap[k]? = w4.heap[k]? := fun k hk hn hne => by rw [h7]; exact (Below.heap_setCell _ _ _ _ hne).trans (hk6 k hk hn)
  have hkI : ∀ k, I k → w7.heap[k]? = w4.heap[k]? := fun k e => hk7 k (hP.lt k (hP.sI k e)) (fun e2 => (hP.sv k e2).2.1 e) (fun e2 => hP.sG.2 (by rw [← e2]; exact e))
  have hGv : ¬ v.ownBlock = some G := fun e => (hvl G e).2 rfl
  have hgS : ∀ k, S k → Go.Proofs.YtioabjniipkncaaGreatDoor.grow S w w7 k := fun k e => Or.inl e
  have hown : ∀ a, B = some a → 0 < x.g.scopes.length → base ≤ a.block ∧ a.block < w4.heap.size := fun a ha hn => ⟨own_ge hO a ha, ss_block hO.ss.1 ha hn⟩
  have hv6G : ¬ v6.ownBlock = some G := fun hg => by
    rcases hv6 with h8 | h8
    · rw [h8] at hg
      exact hGv hg
    · rw [h8] at hg
      injection hg with hg
      omega
  refine ⟨⟨fun k => I k ∨ (base ≤ k ∧ k < w4.heap.size), v6, es ++ [(x, B, dd)], ?_, hO6.keep (fun g hg => by rw [h7]; exact Below.heap_setCell _ _ _ _ (fun e => hv6G ((show g = G from e) ▸ hg))), by rw [List.map_append, hP.hl]; rfl, fun e he => ?_, fun k e => ?_, ⟨hgS _ hP.sG.1, fun e => ?_⟩, fun g hg => ?_, fun k e => ?_, hinv⟩, ?_⟩
  · rw [h7]
    exact heap_setCell_same _ _ 1 _ _ _ ((hk6 G (by omega) hGv).trans hP.hG)
  · rcases List.mem_append.1 he with he | he
    · have := hP.tk e he
      exact ⟨ss_keep this.1 this.2 hkI (by omega), fun a ha hn => Or.inl (this.2 a ha hn)⟩
    · rw [List.mem_singleton] at he
      subst he
      exact ⟨ss_keep (S := fun k => base ≤ k ∧ k < w4.heap.size) hO.ss.1 hown (fun k e => hk7 k e.2 (fun e2 => by have := (hvl k e2).1; omega) (by omega)) (by omega), fun a ha hn => Or.inr (hown a ha hn)⟩
  · rcases e with e | e
    · exact hgS k (hP.sI k e)
    · exact Or.inr ⟨by omega, by omega⟩
  · rcases e with e | e
    · exact hP.sG.2 e
    · omega
  · rcases hv6 with h8 | h8
    · rw [h8] at hg
      refine ⟨hgS _ (hP.sv g hg).1, fun e => ?_, (hvl g hg).2⟩
      rcases e with e | e
      · exact (hP.sv g hg).2.1 e
      · have := (hvl g hg).1; omega
    · have hl := hO6.lt g hg
      rw [h8] at hg
      injection hg with hg
      subst hg
      refine ⟨Or.inr ⟨by omega, by omega⟩, fun e => ?_, by omega⟩
      rcases e with e | e
      · have := hP.lt _ (hP.sI _ e); omega
      · omega
  · rcases e with e | e
    · have := hlt k e; omega
    · exact e.2
  · have t7 : w7.os = w6.os ∧ w7.tape = w6.tape ∧ w7.output = w6.output := by rw [h7]; exact ⟨rfl, rfl, rfl⟩
    exact ⟨t7.1.trans (hg6.os.trans (hb5.os.trans hM.os)), t7.2.1.trans (hg6.tape.trans (hb5.tape.trans hM.tape)), t7.2.2.trans (hg6.output.trans (hb5.output.trans hM.output)), by omega, fun k hk hns => (hk7 k (by omega) (fun e => hns (hP.sv k e).1) (fun e => hns (by rw [e]; exact hP.sG.1))).trans (hM.block k hk hns)⟩
theorem riss_fin2 {w w4 w6 : World} {S I : Nat → Prop} {G dd n c6 base : Nat} {st st' : Ct} {k : Int} {v : Value} {es : List CdE} {t : Bs} {g : Gr} {now : Int} {B A6 : Option Addr} (hq : iss st t g now = (st', k)) (he : issE st t g = 0) (hinv : Inv { st with l := st.l ++ [newC st t g now] }) (hP : RefP w4 S I G st v es) (hlt : ∀ k, S k → k < w.heap.size) (hM : Mods S w w4) (hwb : w.heap.size ≤ base) (hO : Own1 w4 base (.slice B g.scopes.length dd) g.scopes)
    (hO6 : OwnR w6 (.slice A6 n c6) (es ++ [((newC st t g now, B, dd) : CdE)])) (hg6 : (w4.drew.alloc (.cells (fl16 ((newC st t g now, B, dd) : CdE)).toArray 74)).grownBy w6 v.ownBlock) (hv6 : (Value.slice A6 n c6).ownBlock = v.ownBlock ∨ (Value.slice A6 n c6).ownBlock = some (w4.drew.alloc (.cells (fl16 ((newC st t g now, B, dd) : CdE)).toArray 74)).heap.size) :
    Ending.returned (.int .i64 0) = .returned (.int .i64 k) ∧ RefE (w6.setCell ⟨G, 1, none⟩ (.slice A6 n c6)) (Go.Proofs.YtioabjniipkncaaGreatDoor.grow S w (w6.setCell ⟨G, 1, none⟩ (.slice A6 n c6))) G st' ∧ Mods S w (w6.setCell ⟨G, 1, none⟩ (.slice A6 n c6)) := by
  unfold iss at hq
  rw [if_pos he] at hq
  obtain ⟨q1, q2⟩ := Prod.mk.inj hq
  rw [← q1, ← q2]
  exact ⟨rfl, riss_fin (x := newC st t g now) hP hlt hM hwb hO rfl hO6 hg6 hv6 rfl hinv⟩
end Go.Proofs.YtioabjniipkncaaGreatDoor.Rc
