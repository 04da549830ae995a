/-
  Equal grants; great ones.
-/
import Derived.Test.YtioabjniipkncaaGreatDoorRcV
namespace Go.Proofs.YtioabjniipkncaaGreatDoor.Rc
open Go.RowKit Go.Proofs.YtioabjniipkncaaGreatDoor.Fo Go.Proofs.YtioabjniipkncaaGreatDoor.Rf

theorem same02 (A B : Option Addr) (n c d : Nat) (l : List Bs) (w : World) (hl : Ss w A n c l) (hk : Ss w B n d l) (hn : n ≤ 100000) :
    Calls Tryz.prog 39 #[.slice A n c, .slice B n d] w fun e w' => e = .returned (.bool true) ∧ Below w.heap.size w w' := by
  have HL := Lib.hid hl
  have HK := Lib.hid hk
  clear hl hk
  go_enter Tryz.func39, Tryz.ntmps39
  go_wp2
  go_loopw [5] (fun i wr => ∃ j : Nat, i = .int .i64 j ∧ j ≤ n ∧ Below w.heap.size w wr) (fun i _ => n - (intOf i).toNat)
  case atStart => exact ⟨0, rfl, Nat.zero_le _, Below.refl _ _⟩
  case round =>
    obtain ⟨j, rfl, hj, hb⟩ := hrel
    have HB := Lib.hid hb
    clear hb
    by_cases hlt : j < n
    · obtain ⟨b, off, rfl, hbl, hc⟩ := (HL.out.below HB.out).2.2 (by omega)
      obtain ⟨b2, off2, rfl, hbl2, hc2⟩ := (HK.out.below HB.out).2.2 (by omega)
      have hck := hc j hlt
      have hck2 := hc2 j hlt
      obtain ⟨x, hx⟩ : ∃ x, sAt l j = x := ⟨_, rfl⟩
      rw [hx] at hck hck2
      clear hx hc hc2
      go_wp2_with fail
      go_quiet (fail)
      go_wp2
      go_roundw
      case rel => exact ⟨j + 1, by go_num, by omega, below_drewN HB.out _⟩
      case measure => simp [intOf]; omega
    · go_wp2
      go_ret
      exact ⟨rfl, HB.out⟩
set_option maxRecDepth 100000 in
set_option maxHeartbeats 4000000 in
/-- Two grants of the same fields, whose scopes read alike. -/
theorem same_yes (u c t s r nn ch : Bs) (m a lv : Int) (A B : Option Addr) (n d d2 : Nat) (l : List Bs) (w : World) (hl : Ss w A n d l) (hk : Ss w B n d2 l) (hn : n ≤ 100000) :
    Calls Tryz.prog 18 #[.agg #[.string u, .string c, .string t, .string s, .string r, .string nn, .string ch, .int .i64 m, .slice A n d, .int .i64 a, .int .i64 lv], .agg #[.string u, .string c, .string t, .string s, .string r, .string nn, .string ch, .int .i64 m, .slice B n d2, .int .i64 a, .int .i64 lv]] w fun e w' => e = .returned (.bool true) ∧ Below w.heap.size w w' := by
  have HL := Lib.hid hl
  have HK := Lib.hid hk
  have HX1 := Lib.hid (show ((w.alloc (.cells #[.string u, .string c, .string t, .string s, .string r, .string nn, .string ch, .int .i64 m, .slice A n d, .int .i64 a, .int .i64 lv] 36)).alloc (.cells #[.string u, .string c, .string t, .string s, .string r, .string nn, .string ch, .int .i64 m, .slice B n d2, .int .i64 a, .int .i64 lv] 36)).heap[w.heap.size]? = some (.cells #[.string u, .string c, .string t, .string s, .string r, .string nn, .string ch, .int .i64 m, .slice A n d, .int .i64 a, .int .i64 lv] 36 (0, 0)) from (Below.heap_alloc _ _ _ (by simp)).trans (heap_alloc_new _ _))
  have HX2 := Lib.hid (show ((w.alloc (.cells #[.string u, .string c, .string t, .string s, .string r, .string nn, .string ch, .int .i64 m, .slice A n d, .int .i64 a, .int .i64 lv] 36)).alloc (.cells #[.string u, .string c, .string t, .string s, .string r, .string nn, .string ch, .int .i64 m, .slice B n d2, .int .i64 a, .int .i64 lv] 36)).heap[w.heap.size + 1]? = some (.cells #[.string u, .string c, .string t, .string s, .string r, .string nn, .string ch, .int .i64 m, .slice B n d2, .int .i64 a, .int .i64 lv] 36 (0, 0)) by
    have e : w.heap.size + 1 = (w.alloc (.cells #[.string u, .string c, .string t, .string s, .string r, .string nn, .string ch, .int .i64 m, .slice A n d, .int .i64 a, .int .i64 lv] 36)).heap.size := by simp
    rw [e]
    exact heap_alloc_new _ _)
  clear hl hk
  go_enter Tryz.func18, Tryz.ntmps18
  go_wp2_with fail
  refine (same02 A B n d d2 l _ (HL.out.below (by go_grown)) (HK.out.below (by go_grown)) hn).mono ?_
  rintro e w1 ⟨rfl, hb1⟩
  have HB1 := Lib.hid hb1
  have HY1 := Lib.hid ((hb1.block _ (blk_lt HX1.out)).trans HX1.out)
  have HY2 := Lib.hid ((hb1.block _ (blk_lt HX2.out)).trans HX2.out)
  clear hb1
  have y9 := cell_block HY1.out 9
  have y10 := cell_block HY1.out 10
  simp only [List.getElem?_toArray, List.getElem?_cons_zero, List.getElem?_cons_succ] at y9 y10
  have z9 := cell_block HY2.out 9
  have z10 := cell_block HY2.out 10
  simp only [List.getElem?_toArray, List.getElem?_cons_zero, List.getElem?_cons_succ] at z9 z10
  go_wp2
  go_ret
  exact ⟨rfl, Below.trans (by go_grown) (HB1.out.mono (by simp; omega))⟩
/-- A list is too long, or has a string that is. -/
def greatB (l : List Bs) (m k : Int) : Bool := decide (m < (l.length : Int)) || l.any fun s => decide (k < (s.size : Int))
theorem great2_any (A : Option Addr) (n c : Nat) (l : List Bs) (m k : Int) (w : World) (hl : Ss w A n c l) (hm : m ≤ 100000) :
    Calls Tryz.prog 14 #[.slice A n c, .int .i64 m, .int .i64 k] w fun e w' => e = .returned (.bool (greatB l m k)) ∧ w = w' := by
  have HL := Lib.hid hl
  have HLN := Lib.hid hl.1
  clear hl
  by_cases h1 : m < (n : Int)
  · have HR := Lib.hid (show greatB l m k = true by unfold greatB; rw [HLN.out, decide_eq_true h1]; rfl)
    go_enter Tryz.func14, Tryz.ntmps14
    go_wp2
    go_ret
    exact ⟨ret_bool HR.out.symm, rfl⟩
  · have HV := Lib.hid (show greatB l m k = l.any fun s => decide (k < (s.size : Int)) by unfold greatB; rw [HLN.out, decide_eq_false h1]; rfl)
    go_enter Tryz.func14, Tryz.ntmps14
    go_wp2
    go_loopw [7] (fun i wr => ∃ j : Nat, i = .int .i64 j ∧ j ≤ n ∧ Hid (∀ q, q < j → ¬ k < ((sAt l q).size : Int)) ∧ w = wr) (fun i _ => n - (intOf i).toNat)
    case atStart => exact ⟨0, rfl, Nat.zero_le _, fun q hq => absurd hq (Nat.not_lt_zero _), rfl⟩
    case round =>
      obtain ⟨j, rfl, hj, HA, rfl⟩ := hrel
      by_cases hlt : j < n
      · obtain ⟨b, off, rfl, hbl, hc⟩ := HL.out.2.2 (by omega)
        have hck := hc j hlt
        obtain ⟨x, hx⟩ : ∃ x, sAt l j = x := ⟨_, rfl⟩
        rw [hx] at hck
        have HXX := Lib.hid hx
        clear hx hc
        by_cases hbig : k < (x.size : Int)
        · have HR := Lib.hid (show greatB l m k = true by
            rw [HV.out, List.any_eq_true]
            exact ⟨x, by rw [← HXX.out, ← sAt_get l j (by rw [HLN.out]; exact hlt)]; exact List.getElem_mem _, decide_eq_true hbig⟩)
          go_wp2
          go_ret
          exact ⟨ret_bool HR.out.symm, rfl⟩
        · have HN := Lib.hid (show ¬ k < ((sAt l j).size : Int) by rw [HXX.out]; exact hbig)
          go_wp2
          go_roundw
          case rel => exact ⟨j + 1, by go_num, by omega, (fun q hq => if e : q = j then by rw [e]; exact HN.out else HA.out q (by omega)), (by first | rfl | trivial)⟩
          case measure => simp [intOf]; omega
      · have e : j = n := by omega
        have HR := Lib.hid (show greatB l m k = false by
          rw [HV.out, List.any_eq_false]
          intro x hx
          obtain ⟨q, hq, rfl⟩ := List.getElem_of_mem hx
          have := HA.out q (by rw [e, ← HLN.out]; exact hq)
          rw [← sAt_get l q hq] at this
          simpa using this)
        go_wp2
        go_ret
        exact ⟨ret_bool HR.out.symm, rfl⟩
def strG (g : Gr) : List Bs := [g.user, g.client, g.tenant, g.session, g.redirect, g.nonce, g.challenge]
def greatG (g : Gr) : Bool := greatB (strG g) 7 300 || greatB g.scopes 20 300
/-- A row of strings that was built. -/
theorem ss_row {w : World} {q : Nat} {l : List Bs} (h : w.heap[q]? = some (.cells (l.map Value.string).toArray 9 (0, 0))) : Ss w (some ⟨q, 0, none⟩) l.length l.length l := by
  refine ⟨rfl, Nat.le_refl _, fun _ => ⟨q, 0, rfl, blk_lt h, fun i hi => ?_⟩⟩
  rw [Nat.zero_add, cell_block h i]
  simp only [List.getElem?_toArray, List.getElem?_map]
  rw [List.getElem?_eq_getElem hi, sAt_get]
  rfl
set_option maxRecDepth 100000 in
set_option maxHeartbeats 4000000 in
theorem greatg_any (g : Gr) (A : Option Addr) (n c : Nat) (w : World) (hs : Ss w A n c g.scopes) : Calls Tryz.prog 13 #[.agg #[.string g.user, .string g.client, .string g.tenant, .string g.session, .string g.redirect, .string g.nonce, .string g.challenge, .int .i64 g.method, (.slice A n c), .int .i64 g.auth, .int .i64 g.level]] w fun e w' => e = .returned (.bool (greatG g)) ∧ Below w.heap.size w w' := by
  have HS := Lib.hid hs
  clear hs
  go_enter Tryz.func13, Tryz.ntmps13
  go_upto_region 1 with fail
  obtain ⟨w0, hw0⟩ : ∃ w0, w0 = w.alloc (.cells #[.string g.user, .string g.client, .string g.tenant, .string g.session, .string g.redirect, .string g.nonce, .string g.challenge, .int .i64 g.method, (.slice A n c), .int .i64 g.auth, .int .i64 g.level] 36) := ⟨_, rfl⟩
  rw [← hw0]
  have HB := Lib.hid (show Below w.heap.size w w0 by rw [hw0]; go_grown)
  have HX := Lib.hid (show w0.heap[w.heap.size]? = some (.cells #[.string g.user, .string g.client, .string g.tenant, .string g.session, .string g.redirect, .string g.nonce, .string g.challenge, .int .i64 g.method, (.slice A n c), .int .i64 g.auth, .int .i64 g.level] 36 (0, 0)) by rw [hw0]; exact heap_alloc_new _ _)
  clear hw0
  have x0 := cell_block HX.out 0
  have x1 := cell_block HX.out 1
  have x2 := cell_block HX.out 2
  have x3 := cell_block HX.out 3
  have x4 := cell_block HX.out 4
  have x5 := cell_block HX.out 5
  have x6 := cell_block HX.out 6
  simp only [List.getElem?_toArray, List.getElem?_cons_zero, List.getElem?_cons_succ] at x0 x1 x2 x3 x4 x5 x6
  have HQ := Lib.hid (show (w0.alloc (.cells #[.string g.user, .string g.client, .string g.tenant, .string g.session, .string g.redirect, .string g.nonce, .string g.challenge] 9)).heap[w0.heap.size]? = some (.cells ((strG g).map Value.string).toArray 9 (0, 0)) from heap_alloc_new _ _)
  have HB2 := Lib.hid (HB.out.trans ((show Below w0.heap.size w0 (w0.alloc (.cells #[.string g.user, .string g.client, .string g.tenant, .string g.session, .string g.redirect, .string g.nonce, .string g.challenge] 9)) by go_grown).mono HB.out.size))
  have HX2 := Lib.hid ((Below.heap_alloc w0 (.cells #[.string g.user, .string g.client, .string g.tenant, .string g.session, .string g.redirect, .string g.nonce, .string g.challenge] 9) _ (blk_lt HX.out)).trans HX.out)
  cases q1 : greatB (strG g) 7 300 with
  | true =>
    have HR := Lib.hid (show greatG g = true by unfold greatG; rw [q1]; rfl)
    have Q1 := Lib.hid q1
    clear q1
    go_wp2_with fail
    refine (great2_any (some ⟨w0.heap.size, 0, none⟩) 7 7 (strG g) 7 300 _ (ss_row HQ.out) (by omega)).mono ?_
    rintro e w1 ⟨rfl, rfl⟩
    rw [Q1.out]
    go_wp2
    go_ret
    exact ⟨ret_bool HR.out.symm, HB2.out⟩
  | false =>
    obtain ⟨b2, hb2⟩ : ∃ b2, greatB g.scopes 20 300 = b2 := ⟨_, rfl⟩
    have HR := Lib.hid (show greatG g = b2 by unfold greatG; rw [q1, hb2]; rfl)
    have Q1 := Lib.hid q1
    have Q2 := Lib.hid hb2
    clear q1 hb2
    have z8 := cell_block HX2.out 8
    simp only [List.getElem?_toArray, List.getElem?_cons_zero, List.getElem?_cons_succ] at z8
    go_wp2_with fail
    refine (great2_any (some ⟨w0.heap.size, 0, none⟩) 7 7 (strG g) 7 300 _ (ss_row HQ.out) (by omega)).mono ?_
    rintro e w1 ⟨rfl, rfl⟩
    rw [Q1.out]
    go_wp2_with fail
    refine (great2_any A n c g.scopes 20 300 _ (HS.out.below HB2.out) (by omega)).mono ?_
    rintro e w1 ⟨rfl, rfl⟩
    rw [Q2.out]
    go_wp2
    go_ret
    exact ⟨ret_bool HR.out.symm, HB2.out⟩
end Go.Proofs.YtioabjniipkncaaGreatDoor.Rc
