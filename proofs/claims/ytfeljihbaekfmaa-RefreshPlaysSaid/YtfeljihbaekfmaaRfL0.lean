/-
  What the walks of layer 41's statements share.
-/
import Derived.Test.YtfeljihbaekfmaaRfAw
import Derived.Test.YtfeljihbaekfmaaRfZ2
import Derived.Test.YtfeljihbaekfmaaRfPl
import Derived.Test.YtfeljihbaekfmaaRfSame
namespace Go.Proofs.Ytfeljihbaekfmaa.Rf
open Go.RowKit Go.Proofs.Ytfeljihbaekfmaa.Fo

theorem Os.at {w : World} {A : Option Addr} {n c : Nat} {l : List Opx} (h : Os w A n c l) {k : Nat} (hk : k < n) :
    ∃ b off A' d x, A = some ⟨b, off, none⟩ ∧ b < w.heap.size ∧ oAt l k = x ∧ w.cell? ⟨b, off + k * 9, none⟩ = some (.int .i64 x.call) ∧ w.cell? ⟨b, off + k * 9 + 1, none⟩ = some (.int .i64 x.now) ∧ w.cell? ⟨b, off + k * 9 + 2, none⟩ = some (.string x.id) ∧ w.cell? ⟨b, off + k * 9 + 3, none⟩ = some (.string x.tok) ∧ w.cell? ⟨b, off + k * 9 + 4, none⟩ = some (.string x.nxt) ∧ w.cell? ⟨b, off + k * 9 + 5, none⟩ = some (.string x.user) ∧ w.cell? ⟨b, off + k * 9 + 6, none⟩ = some (.string x.cl) ∧ w.cell? ⟨b, off + k * 9 + 7, none⟩ = some (.string x.ses) ∧ w.cell? ⟨b, off + k * 9 + 8, none⟩ = some (.slice A' x.sc.length d) ∧ Ss w A' x.sc.length d x.sc ∧ ∀ a, A' = some a → 0 < x.sc.length → a.block < w.heap.size := by
  obtain ⟨b, off, rfl, hb, hc⟩ := h.2.2 (by omega)
  obtain ⟨A', d, h0, h1, h2, h3, h4, h5, h6, h7, h8, h9⟩ := hc k hk
  refine ⟨b, off, A', d, _, rfl, hb, rfl, h0, h1, h2, h3, h4, h5, h6, h7, h8, h9, fun a ha hl => ?_⟩
  obtain ⟨b', off', e, hb', _⟩ := h9.2.2 hl
  rw [ha] at e
  injection e with e
  rw [e]
  exact hb'
theorem light_at {l : List Opx} (h : lightB l = true) {k : Nat} (hk : k < l.length) : opOk (oAt l k) = true := by
  unfold lightB at h
  simp only [Bool.and_eq_true, decide_eq_true_eq] at h
  rw [List.take_of_length_le (by omega), List.all_eq_true] at h
  exact h.1 _ (List.mem_of_getElem? (oAt_get l k hk))
theorem light_len {l : List Opx} (h : lightB l = true) : l.length ≤ 24 := by
  unfold lightB at h
  simp only [Bool.and_eq_true, decide_eq_true_eq] at h
  exact h.2
theorem light_is (w : World) (A : Option Addr) (n c : Nat) (l : List Opx) (hs : Os w A n c l) {b : Bool} (hb : lightB l = b) : Calls Try.prog 9 #[.slice A n c] w fun e w' => e = .returned (.bool b) ∧ Below w.heap.size w w' := by
  subst hb
  exact light_any w A n c l hs
end Go.Proofs.Ytfeljihbaekfmaa.Rf
