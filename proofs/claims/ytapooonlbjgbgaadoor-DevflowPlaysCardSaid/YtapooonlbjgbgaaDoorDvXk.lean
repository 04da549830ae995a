/-
  The reference: Start, a flow is recorded.
-/
import Derived.Test.YtapooonlbjgbgaaDoorDvXj
import Derived.Deep.MidRow
namespace Go.Proofs.YtapooonlbjgbgaaDoor.Dv
open Go.RowKit Go.Proofs.YtapooonlbjgbgaaDoor.Fo Go.Proofs.YtapooonlbjgbgaaDoor.Rf

/-- A slice of one flow is built. -/
theorem wp_build20 {w : World} {o : Oper} {a : Act} {K : Act → World → Prop} {Q : Exit → Act → World → Prop} (p : Operand) (ho : o.op = .buildSlice 73 1 #[(0, p)]) (e : FwE) (hp : a.eval p = .agg (fl20 e).toArray)
    (h : K (a.put o.dst (.slice (some ⟨w.heap.size, 0, none⟩) 1 1)) (w.alloc (.cells (fl20 e).toArray 86))) : o.wp Tryd.prog a w K Q := by
  obtain ⟨i0, hi, hz0, hz1, hz2⟩ := info_parts flow_info
  refine wp_buildSlice _ 86 1 #[(0, p)] ho (fl20 e).toArray i0 _ Tryd.underlying73 hi hz0 (by rw [hz1]; decide) (by rw [hz1]; decide) ?_ h
  rw [hz1]
  simp only [List.map_toArray, List.map_cons, List.map_nil, hp]
  exact fill20 _ (by simp) e
theorem build20 (d u c : Bs) (B : Option Addr) (n dd : Nat) (f iv : Int) (w : World) : (Instr.build 86 #[(0, .string d), (1, .string u), (2, .string c), (3, .slice B n dd), (4, .int .i64 f), (5, .int .i64 iv)]).run Tryd.prog w = .ok (.agg #[.string d, .string u, .string c, .slice B n dd, .int .i64 f, .int .i64 iv, .int .i64 0, .int .i64 0, .bool false, .string ⟨#[]⟩, .string ⟨#[]⟩, .string ⟨#[]⟩, .string ⟨#[]⟩, .string ⟨#[]⟩, .string ⟨#[]⟩, .string ⟨#[]⟩, .int .i64 0, .slice none 0 0, .int .i64 0, .int .i64 0]) w := run_build w 86 _ _ (by kernel_rfl)
theorem yields_build20 {ops : Array Oper} {S : World → Prop} {o : Oper} {a : Act} (hw : Region.wanted o (yielded ops a.tmps) = true) (p0 p1 p2 p3 p4 p5 : Operand) (ho : o.op = .build 86 #[(0, p0), (1, p1), (2, p2), (3, p3), (4, p4), (5, p5)]) (d u c : Bs) (B : Option Addr) (n dd : Nat) (f iv : Int) (h0 : a.eval p0 = .string d) (h1 : a.eval p1 = .string u) (h2 : a.eval p2 = .string c) (h3 : a.eval p3 = .slice B n dd) (h4 : a.eval p4 = .int .i64 f) (h5 : a.eval p5 = .int .i64 iv) :
    YieldsIf Tryd.prog ops S o (.agg #[.string d, .string u, .string c, .slice B n dd, .int .i64 f, .int .i64 iv, .int .i64 0, .int .i64 0, .bool false, .string ⟨#[]⟩, .string ⟨#[]⟩, .string ⟨#[]⟩, .string ⟨#[]⟩, .string ⟨#[]⟩, .string ⟨#[]⟩, .string ⟨#[]⟩, .int .i64 0, .slice none 0 0, .int .i64 0, .int .i64 0]) a :=
  .inl ⟨hw, fun w _ => by
    unfold execOp
    simp only [ho, List.map_toArray, List.map_cons, List.map_nil, h0, h1, h2, h3, h4, h5, Sem.run_bind, build20 d u c B n dd f iv w, Result.andThen_ok, Sem.run_pure]⟩
theorem addC_r (t d : Int) : addC t (limI d) = addC t d := by unfold addC; rw [limI_lim]
theorem rsta_fin {w w3 w4 w5 w6 w7 : World} {S S3 I : Nat → Prop} {G dd : Nat} {st3 : Fs} {v v6 : Value} {es : List FwE} {x : Fw} {B : Option Addr} (hP : RefP w3 S3 I G st3 v es) (hS3 : ∀ k, S3 k → S k ∨ w.heap.size ≤ k) (hlt : ∀ k, S k → k < w.heap.size) (hM : Mods S w w3) (hb : Below w3.heap.size w3 w4) (hO : Own1 w4 w3.heap.size (.slice B x.scopes.length dd) x.scopes)
    (h5 : w5 = w4.drew.alloc (.cells (fl20 (x, B, dd, none, 0)).toArray 86)) (hO6 : OwnR w6 v6 (es ++ [(x, B, dd, none, 0)])) (hg6 : w5.grownBy w6 v.ownBlock) (hv6 : v6.ownBlock = v.ownBlock ∨ v6.ownBlock = some w5.heap.size) (h7 : w7 = w6.setCell ⟨G, 2, none⟩ v6) (hx : x.g.scopes = []) (hinv : Inv { st3 with l := st3.l ++ [x] }) :
    RefE w7 (Go.Proofs.YtapooonlbjgbgaaDoor.grow S w w7) G { st3 with l := st3.l ++ [x] } ∧ Mods S w w7 := by
  have hb5 : Below w4.heap.size w4 w5 := by rw [h5]; go_grown
  have z5 : w5.heap.size = w4.heap.size + 1 := by rw [h5]; simp
  have hz3 := hM.size
  have hz4 := hb.size
  have hz6 := hg6.size
  have hz7 : w7.heap.size = w6.heap.size := by rw [h7]; simp only [sc_size]
  have hG3 := hP.lt G hP.sG.1
  have hvl : ∀ g, v.ownBlock = some g → g < w3.heap.size ∧ g ≠ G := fun g hg => ⟨hP.lt g (hP.sv g hg).1, (hP.sv g hg).2.2⟩
  have hk6 : ∀ k, k < w4.heap.size → ¬ v.ownBlock = some k → w6.heap[k]? = w4.heap[k]? := fun k hk hn => (hg6.block k (by omega) (fun e => hn e.symm)).trans (hb5.block k hk)
  have hk7 : ∀ k, k < w4.heap.size → ¬ v.ownBlock = some k → k ≠ G → w7.heap[k]? = w4.heap[k]? := fun k hk hn hne => by rw [h7]; exact (Below.heap_setCell _ _ _ _ hne).trans (hk6 k hk hn)
  have hk3 : ∀ k, k < w3.heap.size → ¬ v.ownBlock = some k → k ≠ G → w7.heap[k]? = w3.heap[k]? := fun k hk hn hne => (hk7 k (by omega) hn hne).trans (hb.block k hk)
  have hkI : ∀ k, I k → w7.heap[k]? = w3.heap[k]? := fun k e => hk3 k (hP.lt k (hP.sI k e)) (fun e2 => (hP.sv k e2).2.1 e) (fun e2 => hP.sG.2 (by rw [← e2]; exact e))
  have hGv : ¬ v.ownBlock = some G := fun e => (hvl G e).2 rfl
  have hgS : ∀ k, S3 k → Go.Proofs.YtapooonlbjgbgaaDoor.grow S w w7 k := fun k e => by
    rcases hS3 k e with e2 | e2
    · exact Or.inl e2
    · exact Or.inr ⟨e2, by have := hP.lt k e; omega⟩
  have hown : ∀ a, B = some a → 0 < x.scopes.length → w3.heap.size ≤ a.block ∧ a.block < w4.heap.size := fun a ha hn => ⟨own_ge hO a ha, ss_block hO.ss.1 ha hn⟩
  have hv6G : ¬ v6.ownBlock = some G := fun hg => by
    rcases hv6 with h8 | h8
    · rw [h8] at hg
      exact hGv hg
    · rw [h8] at hg
      injection hg with hg
      omega
  refine ⟨⟨fun k => I k ∨ (w3.heap.size ≤ k ∧ k < w4.heap.size), v6, es ++ [(x, B, dd, none, 0)], ?_, hO6.keep (fun g hg => by rw [h7]; exact Below.heap_setCell _ _ _ _ (fun e => hv6G ((show g = G from e) ▸ hg))), by rw [List.map_append, hP.hl]; rfl, fun e he => ?_, fun e he => ?_, fun k e => ?_, ⟨hgS _ hP.sG.1, fun e => ?_⟩, fun g hg => ?_, fun k e => ?_, hinv⟩, ?_⟩
  · rw [h7]
    exact heap_setCell_same _ _ 2 _ _ _ ((hk6 G (by omega) hGv).trans ((hb.block G hG3).trans hP.hG))
  · rcases List.mem_append.1 he with he | he
    · have := hP.sc e he
      exact ⟨ss_keep this.1 this.2 hkI (by omega), fun a ha hn => Or.inl (this.2 a ha hn)⟩
    · rw [List.mem_singleton] at he
      subst he
      exact ⟨ss_keep (S := fun k => w3.heap.size ≤ k ∧ k < w4.heap.size) hO.ss.1 hown (fun k e => hk7 k e.2 (fun e2 => by have := (hvl k e2).1; omega) (by omega)) (by omega), fun a ha hn => Or.inr (hown a ha hn)⟩
  · rcases List.mem_append.1 he with he | he
    · have := hP.tk e he
      exact ⟨ss_keep this.1 this.2 hkI (by omega), fun a ha hn => Or.inl (this.2 a ha hn)⟩
    · rw [List.mem_singleton] at he
      subst he
      simp only [hx]
      exact ⟨Ss.nil _ _ _, fun a ha => (by cases ha)⟩
  · rcases e with e | e
    · exact hgS k (hP.sI k e)
    · exact Or.inr ⟨by omega, by omega⟩
  · rcases e with e | e
    · exact hP.sG.2 e
    · omega
  · rcases hv6 with h8 | h8
    · rw [h8] at hg
      refine ⟨hgS _ (hP.sv g hg).1, fun e => ?_, (hvl g hg).2⟩
      rcases e with e | e
      · exact (hP.sv g hg).2.1 e
      · have := (hvl g hg).1; omega
    · have hl := hO6.lt g hg
      rw [h8] at hg
      injection hg with hg
      subst hg
      refine ⟨Or.inr ⟨by omega, by omega⟩, fun e => ?_, by omega⟩
      rcases e with e | e
      · have := hP.lt _ (hP.sI _ e); omega
      · omega
  · rcases e with e | e
    · have := hlt k e; omega
    · exact e.2
  · have hn3 : ∀ k, k < w.heap.size → ¬ S k → ¬ S3 k := fun k hk hns e => by
      rcases hS3 k e with e2 | e2
      · exact hns e2
      · omega
    have t7 : w7.os = w6.os ∧ w7.tape = w6.tape ∧ w7.output = w6.output := by rw [h7]; exact ⟨rfl, rfl, rfl⟩
    exact ⟨t7.1.trans (hg6.os.trans (hb5.os.trans (hb.os.trans hM.os))), t7.2.1.trans (hg6.tape.trans (hb5.tape.trans (hb.tape.trans hM.tape))), t7.2.2.trans (hg6.output.trans (hb5.output.trans (hb.output.trans hM.output))), by omega, fun k hk hns => (hk3 k (by omega) (fun e => hn3 k hk hns (hP.sv k e).1) (fun e => hn3 k hk hns (by rw [e]; exact hP.sG.1))).trans (hM.block k hk hns)⟩
theorem rsta_fin2 {w w3 w4 w6 : World} {S S3 I : Nat → Prop} {G dd n c6 : Nat} {st st' : Fs} {k : Int} {v : Value} {es : List FwE} {d u c code : Bs} {sc : List Bs} {now : Int} {B A6 : Option Addr} (hq : sta st d u c sc now = (st', k)) (he : stE st d u c sc now = 0) (hcu : cuC u = (code, 0)) (hi : Inv st) (hsh : Short sc) (hP : RefP w3 S3 I G (puS st now) v es) (hS3 : ∀ k, S3 k → S k ∨ w.heap.size ≤ k) (hlt : ∀ k, S k → k < w.heap.size) (hM : Mods S w w3) (hb : Below w3.heap.size w3 w4) (hO : Own1 w4 w3.heap.size (.slice B sc.length dd) sc)
    (hO6 : OwnR w6 (.slice A6 n c6) (es ++ [((newF st d code c sc now, B, dd, none, 0) : FwE)])) (hg6 : (w4.drew.alloc (.cells (fl20 ((newF st d code c sc now, B, dd, none, 0) : FwE)).toArray 86)).grownBy w6 v.ownBlock) (hv6 : (Value.slice A6 n c6).ownBlock = v.ownBlock ∨ (Value.slice A6 n c6).ownBlock = some (w4.drew.alloc (.cells (fl20 ((newF st d code c sc now, B, dd, none, 0) : FwE)).toArray 86)).heap.size) :
    Ending.returned (.int .i64 0) = .returned (.int .i64 k) ∧ RefE (w6.setCell ⟨G, 2, none⟩ (.slice A6 n c6)) (Go.Proofs.YtapooonlbjgbgaaDoor.grow S w (w6.setCell ⟨G, 2, none⟩ (.slice A6 n c6))) G st' ∧ Mods S w (w6.setCell ⟨G, 2, none⟩ (.slice A6 n c6)) := by
  have hin := inv_sta hi hsh he
  unfold sta at hq
  rw [if_pos he] at hq
  obtain ⟨q1, q2⟩ := Prod.mk.inj hq
  rw [hcu] at q1 hin
  rw [← q1, ← q2]
  exact ⟨rfl, rsta_fin (x := newF st d code c sc now) hP hS3 hlt hM hb hO rfl hO6 hg6 hv6 rfl rfl hin⟩
end Go.Proofs.YtapooonlbjgbgaaDoor.Dv
