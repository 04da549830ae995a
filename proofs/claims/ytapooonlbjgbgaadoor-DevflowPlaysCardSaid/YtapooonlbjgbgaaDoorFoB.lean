/-
  The walks of layer 1: Lower and its reference.
-/
import Derived.Test.YtapooonlbjgbgaaDoorFoP
namespace Go.Proofs.YtapooonlbjgbgaaDoor.Fo
open Go.RowKit

set_option maxHeartbeats 2000000 in
theorem lower_any (s : ByteArray) (w : World) (hs : s.size ≤ 100000) :
    Calls Tryd.prog 40 #[.string s] w fun e w' => e = .returned (.string ⟨(lowL s.data.toList).toArray⟩) ∧ Below w.heap.size w w' := by
  obtain ⟨C, w1, hcv, hC, hby, hb1⟩ := conv_bytes s w
  have HB1 := Lib.hid hb1
  have HY := Lib.hid hby
  have HSZ := Lib.hid (show s.data.toList.length = s.size by simp)
  clear hby hb1
  go_enter Tryd.func40, Tryd.ntmps40
  go_wp2
  go_loopw [4, 9] (fun _ i wr => ∃ k : Nat, k ≤ s.size ∧ i = .int .i64 k ∧ Bys wr w.heap.size (lowTo s.data.toList k) ∧ Below w.heap.size w wr) (fun _ i _ => s.size - (intOf i).toNat)
  case atStart => exact ⟨0, Nat.zero_le _, rfl, by rw [lowTo_zero]; exact HY.out, HB1.out⟩
  case round =>
    obtain ⟨k, hk, rfl, hby, hb⟩ := hrel
    have HY2 := Lib.hid hby
    have HB2 := Lib.hid hb
    clear hby hb hcv HY HB1
    by_cases hlt : k < s.size
    · have hlk : k < s.data.toList.length := by rw [HSZ.out]; exact hlt
      obtain ⟨hcell, hfr⟩ := HY2.out.2 k (by rw [lowTo_length]; exact hlk)
      rw [lowTo_at _ _ hlk] at hcell
      obtain ⟨c, hc⟩ : ∃ c, c = bAt s.data.toList k := ⟨_, rfl⟩
      rw [← hc] at hcell
      have HC := Lib.hid hc
      clear hc
      cases hu : upB c with
      | true =>
        have hwr : IntKind.u8.wrap ((c.toNat : Int) + 32) = ((lowB c).toNat : Int) := by
          have h2 := lowB_up hu
          simp [upB] at hu
          rw [h2]
          simp [IntKind.wrap, IntKind.signed, IntKind.bits]
          omega
        have HS := Lib.hid (lowTo_set s.data.toList k hlk)
        have HU := Lib.hid hu
        go_wp2_with (go_at_call 73; refine (upper_any _ _).mono ?_; rintro e w' ⟨rfl, rfl⟩)
        go_roundw
        case rel => exact ⟨k + 1, by omega, by go_num, by rw [← HS.out, ← HC.out]; exact HY2.out.set k (by rw [lowTo_length]; exact hlk) _, HB2.out.setCell (Nat.le_refl _) _⟩
        case measure => simp [intOf]; omega
      | false =>
        have HS := Lib.hid (lowTo_keep s.data.toList k hlk (lowB_no (by rw [← HC.out]; exact hu)))
        go_wp2_with (go_at_call 73; refine (upper_any _ _).mono ?_; rintro e w' ⟨rfl, rfl⟩)
        go_roundw
        case rel => exact ⟨k + 1, by omega, by go_num, by rw [← HS.out]; exact HY2.out, HB2.out⟩
        case measure => simp [intOf]; omega
    · have e : k = s.size := by omega
      subst e
      have hcv := run_convert_bytes_arg (P := Tryd.prog) wr 61 5 Tryd.underlying61 Tryd.underlying5 w.heap.size 0 s.size C ((lowTo s.data.toList s.size).map fun c => (c.toNat : Int)) (by rw [List.length_map, lowTo_length, HSZ.out]) (by
        intro i hi
        exact HY2.out.ints i (by rw [List.length_map, lowTo_length, HSZ.out]; exact hi)) 9 Tryd.underlying9
      rw [strOf] at hcv
      have HL := Lib.hid (show lowTo s.data.toList s.size = lowL s.data.toList by rw [← HSZ.out, lowTo_all])
      go_wp2
      go_ret
      exact ⟨ret_str (by rw [HL.out]), HB2.out⟩

/-- A row of bytes of the call's own. -/
def OwnS (w : World) (base : Nat) (A : Option Addr) (m c : Nat) (l : List UInt8) : Prop := l.length = m ∧ w.ownsRow base 5 1 (.slice A m c) m (bytesV l)
theorem bytesV_snoc (l : List UInt8) (c : UInt8) : bytesV (l ++ [c]) = bytesV l ++ [.int .u8 (c.toNat : Int)] := by simp [bytesV]
theorem OwnS.nil (w : World) (base : Nat) : OwnS w base none 0 0 [] := ⟨rfl, World.ownsRow_nil _ _ _ _⟩
theorem OwnS.row {w : World} {base : Nat} {A : Option Addr} {m c : Nat} {l : List UInt8} (h : OwnS w base A m c l) (o : Obj) : (w.alloc o).ownsRow base 5 1 (.slice A m c) m (bytesV l) := World.ownsRow.alloc h.2 o
/-- One byte more, behind the append law. -/
theorem OwnS.snoc {w1 : World} {base : Nat} {v' : Value} {m : Nat} {l : List UInt8} {c : UInt8} (hl : l.length = m) (h : w1.ownsRow base 5 1 v' (m + 1) (bytesV l ++ [.int .u8 (c.toNat : Int)])) :
    ∃ A1 c1, v' = .slice A1 (m + 1) c1 ∧ OwnS w1 base A1 (m + 1) c1 (l ++ [c]) := by
  have hlen : (l ++ [c]).length = m + 1 := by rw [List.length_append, hl]; rfl
  have hf : ∃ A1 c1, v' = .slice A1 (m + 1) c1 := by
    rcases h.2 with ⟨_, hn⟩ | ⟨g, cap, cur, rfl, _⟩
    · omega
    · exact ⟨_, _, rfl⟩
  obtain ⟨A1, c1, rfl⟩ := hf
  exact ⟨A1, c1, rfl, hlen, by rw [bytesV_snoc]; exact h⟩
theorem OwnS.grow {w1 w2 : World} {a : World} {base : Nat} {v : Value} {n : Nat} {l : List Value} {o : Obj} (h : (w1.alloc o).ownsRow base 5 1 v n l) (hb : Below a.heap.size a w1) (ha : a.heap.size ≤ base) (hg : (w1.alloc o).grownBy w2 v.ownBlock) : Below a.heap.size a w2 :=
  (hb.alloc hb.size o).grown hg (hb.alloc hb.size o).size fun k hk => Nat.le_trans ha (World.ownsRow.lt h k hk).1
/-- string(b) of a row of the call's own. -/
theorem OwnS.str {w : World} {base : Nat} {A : Option Addr} {m c : Nat} {l : List UInt8} (h : OwnS w base A m c l) : (convert 61 9 (.slice A m c)).run Tryd.prog w = .ok (.string ⟨l.toArray⟩) w := by
  obtain ⟨hl, h⟩ := h
  rcases h.2 with ⟨hv, hn⟩ | ⟨g, cap, cur, hv, hb, hg, hnc, hcm, hcs, ht⟩
  · have e : l = [] := List.eq_nil_of_length_eq_zero (by omega)
    subst e
    rw [hv]
    exact run_convert_bytes_nil w 61 5 Tryd.underlying61 Tryd.underlying5 0 0 9 Tryd.underlying9
  · have := run_convert_bytes_arg (P := Tryd.prog) w 61 5 Tryd.underlying61 Tryd.underlying5 g 0 m cap (l.map fun c => (c.toNat : Int)) (by simpa using hl) (fun i hi => by
      have h1 : cur.toList[i]? = (bytesV l)[i]? := by
        rw [← ht, List.getElem?_take, if_pos (by omega)]
      rw [Nat.zero_add]
      simp only [World.cell?, hg]
      simp [bytesV] at h1
      simp [h1, hl, hi]) 9 Tryd.underlying9
    rw [strOf] at this
    rw [hv]
    exact this
end Go.Proofs.YtapooonlbjgbgaaDoor.Fo
