/-
  The walks of layer 1: Lower and its reference.
-/
import Derived.Test.YtioabjniipkncaaGreatDoorFoP
namespace Go.Proofs.YtioabjniipkncaaGreatDoor.Fo
open Go.RowKit

/-- A row of bytes of the call's own. -/
def OwnS (w : World) (base : Nat) (A : Option Addr) (m c : Nat) (l : List UInt8) : Prop := l.length = m ∧ w.ownsRow base 5 1 (.slice A m c) m (bytesV l)
theorem bytesV_snoc (l : List UInt8) (c : UInt8) : bytesV (l ++ [c]) = bytesV l ++ [.int .u8 (c.toNat : Int)] := by simp [bytesV]
theorem OwnS.nil (w : World) (base : Nat) : OwnS w base none 0 0 [] := ⟨rfl, World.ownsRow_nil _ _ _ _⟩
theorem OwnS.row {w : World} {base : Nat} {A : Option Addr} {m c : Nat} {l : List UInt8} (h : OwnS w base A m c l) (o : Obj) : (w.alloc o).ownsRow base 5 1 (.slice A m c) m (bytesV l) := World.ownsRow.alloc h.2 o
/-- One byte more, behind the append law. -/
theorem OwnS.snoc {w1 : World} {base : Nat} {v' : Value} {m : Nat} {l : List UInt8} {c : UInt8} (hl : l.length = m) (h : w1.ownsRow base 5 1 v' (m + 1) (bytesV l ++ [.int .u8 (c.toNat : Int)])) :
    ∃ A1 c1, v' = .slice A1 (m + 1) c1 ∧ OwnS w1 base A1 (m + 1) c1 (l ++ [c]) := by
  have hlen : (l ++ [c]).length = m + 1 := by rw [List.length_append, hl]; rfl
  have hf : ∃ A1 c1, v' = .slice A1 (m + 1) c1 := by
    rcases h.2 with ⟨_, hn⟩ | ⟨g, cap, cur, rfl, _⟩
    · omega
    · exact ⟨_, _, rfl⟩
  obtain ⟨A1, c1, rfl⟩ := hf
  exact ⟨A1, c1, rfl, hlen, by rw [bytesV_snoc]; exact h⟩
theorem OwnS.grow {w1 w2 : World} {a : World} {base : Nat} {v : Value} {n : Nat} {l : List Value} {o : Obj} (h : (w1.alloc o).ownsRow base 5 1 v n l) (hb : Below a.heap.size a w1) (ha : a.heap.size ≤ base) (hg : (w1.alloc o).grownBy w2 v.ownBlock) : Below a.heap.size a w2 :=
  (hb.alloc hb.size o).grown hg (hb.alloc hb.size o).size fun k hk => Nat.le_trans ha (World.ownsRow.lt h k hk).1
/-- string(b) of a row of the call's own. -/
theorem OwnS.str {w : World} {base : Nat} {A : Option Addr} {m c : Nat} {l : List UInt8} (h : OwnS w base A m c l) : (convert 90 9 (.slice A m c)).run Tryz.prog w = .ok (.string ⟨l.toArray⟩) w := by
  obtain ⟨hl, h⟩ := h
  rcases h.2 with ⟨hv, hn⟩ | ⟨g, cap, cur, hv, hb, hg, hnc, hcm, hcs, ht⟩
  · have e : l = [] := List.eq_nil_of_length_eq_zero (by omega)
    subst e
    rw [hv]
    exact run_convert_bytes_nil w 90 5 Tryz.underlying90 Tryz.underlying5 0 0 9 Tryz.underlying9
  · have := run_convert_bytes_arg (P := Tryz.prog) w 90 5 Tryz.underlying90 Tryz.underlying5 g 0 m cap (l.map fun c => (c.toNat : Int)) (by simpa using hl) (fun i hi => by
      have h1 : cur.toList[i]? = (bytesV l)[i]? := by
        rw [← ht, List.getElem?_take, if_pos (by omega)]
      rw [Nat.zero_add]
      simp only [World.cell?, hg]
      simp [bytesV] at h1
      simp [h1, hl, hi]) 9 Tryz.underlying9
    rw [strOf] at this
    rw [hv]
    exact this
end Go.Proofs.YtioabjniipkncaaGreatDoor.Fo
