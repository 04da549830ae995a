/-
  The reference's Rotate: facts of its success.
-/
import Derived.Test.YtfeljihbaekfmaaRfXh
import Derived.Test.YtfeljihbaekfmaaRfV2
import Derived.Test.YtfeljihbaekfmaaRfAw
namespace Go.Proofs.Ytfeljihbaekfmaa.Rf
open Go.RowKit Go.Proofs.Ytfeljihbaekfmaa.Fo

theorem own1_e {W : World} {k base : Nat} (h : W.heap[k]? = some (.cells #[] 9 (0, 0))) (hb : base ≤ k) : Own1 W base (.slice (some ⟨k, 0, none⟩) 0 0) [] :=
  ⟨rfl, .inr ⟨k, 0, #[], rfl, hb, h, Nat.le_refl _, by simp [maxLen], rfl, rfl⟩⟩
theorem grown_below {B : Nat} {a w w' : World} {row : Option Nat} (hb : Below B a w) (hg : w.grownBy w' row) (hB : B ≤ a.heap.size) (hrow : ∀ b, row = some b → B ≤ b) : Below B a w' :=
  ⟨hg.os.trans hb.os, hg.tape.trans hb.tape, hg.output.trans hb.output, Nat.le_trans hb.size hg.size, fun k hk => (hg.block k (by have := hb.size; omega) (fun e => by have := hrow k e.symm; omega)).trans (hb.block k hk)⟩
theorem own_row {w : World} {base : Nat} {v : Value} {l : List Bs} (h : Own1 w base v l) (b : Nat) (hb : v.ownBlock = some b) : base ≤ b := by
  rcases h.2 with ⟨hv, _⟩ | ⟨g, cap, cur, hv, hg, _⟩
  · rw [hv] at hb; cases hb
  · rw [hv] at hb
    have e2 : g = b := Option.some.inj hb
    omega
/-- Both cells of the family are written. -/
theorem ref_rot {w1 w7 : World} {S I : Nat → Prop} {G g c1 : Nat} {st : St} {es : List FmE} {y : Fm} {sA tA A5 : Option Addr} {sC tC c5 i : Nat} {n : Bs} {now : Int} (h : RefP w1 S I G st (.slice (some ⟨g, 0, none⟩) es.length c1) es) (he : es[i]? = some (y, sA, sC, tA, tC))
    (ho : OwnR w7 (.slice (some ⟨g, 0, none⟩) es.length c1) (es.set i (rotF st y n now, sA, sC, A5, c5))) (hk : ∀ k, k < w1.heap.size → k ≠ g → w7.heap[k]? = w1.heap[k]?) (hz : w1.heap.size ≤ w7.heap.size) (h5 : Own1 w7 w1.heap.size (.slice A5 (y.toks ++ [n]).length c5) (y.toks ++ [n])) (hinv : Inv { st with l := st.l.set i (rotF st y n now) }) :
    RefE w7 (Go.Proofs.Ytfeljihbaekfmaa.grow S w1 w7) G { st with l := st.l.set i (rotF st y n now) } := by
  have hm := List.mem_of_getElem? he
  have hg1 := h.lt g (h.sv g rfl).1
  have hG1 := h.lt G h.sG.1
  have hkI : ∀ k, I k → w7.heap[k]? = w1.heap[k]? := fun k hk2 => hk k (h.lt k (h.sI k hk2)) (fun e2 => (h.sv g rfl).2.1 (by rw [← e2]; exact hk2))
  have hown : ∀ a, A5 = some a → 0 < (y.toks ++ [n]).length → w1.heap.size ≤ a.block ∧ a.block < w7.heap.size := fun a ha hn => by
    have h1 := own_ge h5 a ha
    obtain ⟨b, off, e2, hbl, _⟩ := h5.ss.1.2.2 hn
    rw [ha] at e2
    injection e2 with e2
    rw [e2] at h1 ⊢
    exact ⟨h1, hbl⟩
  refine ⟨fun k => I k ∨ (w1.heap.size ≤ k ∧ k < w7.heap.size), _, _, ref_put (e' := (rotF st y n now, sA, sC, A5, c5)) h he rfl ho (fun k e => Or.inl e) (fun k e hne => hk k (h.lt k e) hne) hz (fun k e => Or.inl e) (fun k e => ?_) ⟨fun e => ?_, fun e => ?_⟩ (fun k e => ?_) ⟨(h.sc _ hm).1.keep (h.sc _ hm).2 hkI hz, fun a ha hn => Or.inl ((h.sc _ hm).2 a ha hn)⟩ ⟨h5.ss.1, fun a ha hn => Or.inr (hown a ha hn)⟩ hinv⟩
  · rcases e with e | e
    · exact Or.inl (h.sI k e)
    · exact Or.inr e
  · rcases e with e | e
    · exact h.sG.2 e
    · omega
  · rcases e with e | e
    · exact (h.sv g rfl).2.1 e
    · simp only at e; omega
  · rcases e with e | e
    · exact Nat.lt_of_lt_of_le (h.lt k e) hz
    · exact e.2
theorem rrot_fin {w w1 w7 wb : World} {S : Nat → Prop} {G : Nat} {st st' : St} {t n c : Bs} {sc l : List Bs} {now : Int} {x : Fm} {B' : Option Addr} {m d' : Nat}
    (hr : rot st t n c sc now = (st', (rotG x sc, 0))) (hlt : ∀ k, S k → k < w.heap.size) (h7 : RefE w7 (Go.Proofs.Ytfeljihbaekfmaa.grow S w1 w7) G st') (hm : Mods S w w7) (hw1 : w.heap.size < w1.heap.size) (hz7 : w1.heap.size ≤ w7.heap.size) (hb : Below w7.heap.size w7 wb) (cs : Array Value) (hss : Ss wb B' m d' l) (hfr : ∀ a, B' = some a → 0 < l.length → S a.block ∨ w7.heap.size ≤ a.block) (hG : rotG x sc = { x.g with scopes := l }) :
    RRotIs w S G (rot st t n c sc now) (.returned (.tuple #[.agg #[.string x.g.user, .string x.g.client, .string x.g.tenant, .string x.g.session, .string x.g.redirect, .string x.g.nonce, .string x.g.challenge, .int .i64 x.g.method, (.slice B' m d'), .int .i64 x.g.auth, .int .i64 x.g.level], .int .i64 0])) (wb.setRow w.heap.size cs) := by
  have e1 : (wb.setRow w.heap.size cs).heap.size = wb.heap.size := setRow_size _ _ _
  have hn := hss.1
  subst hn
  have hbz := hb.size
  have hmz := hm.size
  rw [hr, hG]
  refine ⟨B', d', rfl, ?_, (fun a ha hn => by
    rcases hfr a ha hn with h3 | h3
    · exact Or.inl h3
    · exact Or.inr (Nat.le_trans hmz h3)), h7.keep (fun k e => ?_) (fun k e => ?_) (by omega) (fun k e => ?_), ?_⟩
  · refine ⟨rfl, hss.2.1, fun hn => ?_⟩
    obtain ⟨b, off, e, hl, hc⟩ := hss.2.2 hn
    refine ⟨b, off, e, by omega, fun i hi => ?_⟩
    have hbne : b ≠ w.heap.size := fun e2 => by
      rcases hfr _ e hn with h3 | h3
      · have := hlt _ h3; simp only at this; omega
      · simp only at h3; omega
    rw [World.cell?_of_block (w := wb) (setRow_other wb w.heap.size b cs hbne)]
    exact hc i hi
  · rcases e with e | e
    · exact Or.inl e
    · exact Or.inr ⟨by omega, by omega⟩
  · have hk7 := h7.lt k e
    have hne : k ≠ w.heap.size := by
      rcases e with e | e
      · have := hlt k e; omega
      · omega
    exact (setRow_other wb w.heap.size k cs hne).trans (hb.block k hk7)
  · rcases e with e | e
    · have := hlt k e; omega
    · omega
  · have h1 := hm.below hb
    exact ⟨h1.os, h1.tape, h1.output, by have := h1.size; omega, fun k hk hn => (setRow_other wb w.heap.size k cs (by omega)).trans (h1.block k hk hn)⟩
theorem alloc2_new (w : World) (a b : Obj) : ((w.alloc a).alloc b).heap[w.heap.size + 1]? = some b := by
  have e : w.heap.size + 1 = (w.alloc a).heap.size := by simp
  rw [e]
  exact heap_alloc_new _ _
theorem own_set {w : World} {g c m : Nat} {l : List FmE} (hm : m = l.length) (h : OwnR w (.slice (some ⟨g, 0, none⟩) m c) l) {i : Nat} {e e' : FmE} (hi : l[i]? = some e) {j : Nat} {u : Value} (hj : j < 16) (hs : (fl16 e).set j u = fl16 e') : OwnR (w.setCell ⟨g, i * 16 + j, none⟩ u) (.slice (some ⟨g, 0, none⟩) m c) (l.set i e') := by
  subst hm
  exact h.set hi hj hs
theorem own_at {w : World} {g c m : Nat} {l : List FmE} (hm : m = l.length) (h : OwnR w (.slice (some ⟨g, 0, none⟩) m c) l) {i : Nat} {e : FmE} (hi : l[i]? = some e) (j : Nat) (u : Value) (hu : (fl16 e)[j]? = some u) : w.cell? ⟨g, i * 16 + j, none⟩ = some u := by
  subst hm
  obtain ⟨g', hg', _, hc'⟩ := h.at hi
  injection hg' with hg'
  injection hg' with hg'
  subst hg'
  exact hc' j u hu
theorem cell_set_ne (w : World) {b g j k : Nat} (u : Value) (h : b ≠ g) : (w.setCell ⟨g, k, none⟩ u).cell? ⟨b, j, none⟩ = w.cell? ⟨b, j, none⟩ :=
  World.cell?_of_block (Below.heap_setCell _ _ _ _ h)
theorem ss_mods {w w7 w8 : World} {S : Nat → Prop} {B : Option Addr} {m d : Nat} {sc : List Bs} (h : Ss w B m d sc) (hm : Mods S w w7) (hd : ∀ a, B = some a → 0 < m → ¬ S a.block) (hb : Below w7.heap.size w7 w8) : Ss w8 B m d sc := by
  refine ⟨h.1, h.2.1, fun hn => ?_⟩
  obtain ⟨b, off, rfl, hl, hc⟩ := h.2.2 hn
  refine ⟨b, off, rfl, by have := hm.size; have := hb.size; omega, fun i hi => ?_⟩
  rw [World.cell?_of_block (w := w) ((hb.block b (Nat.lt_of_lt_of_le hl hm.size)).trans (hm.block b hl (hd _ rfl hn)))]
  exact hc i hi
end Go.Proofs.Ytfeljihbaekfmaa.Rf
