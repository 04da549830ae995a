/-
  The walks of layer 5: Format. (Printed by gen_fmt.py.)
-/
import Derived.Test.YtjjcbbckihjapaaDoorNaH
namespace Go.Proofs.YtjjcbbckihjapaaDoor.Na
open Go.RowKit Go.Proofs.YtjjcbbckihjapaaDoor.Fo

/-- A builder of the call's own that holds bytes. -/
def Bd (w : World) (B b : Nat) (out : List UInt8) : Prop := Lib.IsBuilderF 55 5 B b (Lib.byteCells out) w
/-- What a builder's writes keep. -/
def Kp (b : Nat) (w w' : World) : Prop := Lib.OthersKept 5 (some b) w w'
theorem Bd.new (w : World) : Bd (w.alloc (.cells #[.pointer none, .slice none 0 0] 55)) w.heap.size w.heap.size [] := Lib.IsBuilderF.of (Lib.fresh_isBuilder _ _ w)
theorem own_later {w w' : World} {B : Nat} {v : Value} {n : Nat} {xs : List Value} (h : w.ownsRowF B 5 1 v n xs) (hb : Below w.heap.size w w') : w'.ownsRowF B 5 1 v n xs :=
  World.ownsRowF.kept (row := none) h ⟨hb.os, hb.tape, hb.output, hb.size, fun k hk _ => hb.block k hk⟩ (by cases v.ownBlock <;> simp)
theorem Bd.below {w w' : World} {B b : Nat} {out : List UInt8} (h : Bd w B b out) (hb : Below w.heap.size w w') : Bd w' B b out := by
  rcases h with h | h
  · have hl := h.lt
    obtain ⟨h1, v, h2, h3, h4⟩ := h
    exact Or.inl ⟨h1, v, (hb.block b hl).trans h2, own_later h3 hb, h4⟩
  · have hl := h.lt
    obtain ⟨h1, v, h2, h3, h4⟩ := h
    exact Or.inr ⟨h1, v, (hb.block b hl).trans h2, own_later h3 hb, h4⟩
theorem Bd.alloc {w : World} {B b : Nat} {out : List UInt8} (h : Bd w B b out) (o : Obj) : Bd (w.alloc o) B b out := h.below ((Below.refl _ _).alloc (Nat.le_refl _) o)
theorem bd_byte {w : World} {B b : Nat} {out : List UInt8} (h : Bd w B b out) (c : UInt8) (hl : out.length ≤ 1000000) (hB : B ≤ w.heap.size) :
    Calls Tryd.prog 41 #[.pointer (some ⟨b, 0, none⟩), .int .u8 (c.toNat : Int)] w fun e w' => e = .returned .nilIface ∧ Bd w' B b (out ++ [c]) ∧ Below B w w' ∧ Kp b w w' :=
  (Tryd.Builder_WriteByte_k B b (Lib.byteCells out) (c.toNat : Int) w h (by rw [Lib.byteCells_length]; omega) hB).mono fun _ _ ⟨h1, h2, h3, h4⟩ => ⟨h1, Or.inr (by rw [Lib.byteCells_append]; exact h2), h3, h4⟩
theorem bd_str {w : World} {B b : Nat} {out : List UInt8} (h : Bd w B b out) (s : ByteArray) (hl : out.length ≤ 1000000) (hs : s.size ≤ 100000) (hB : B ≤ w.heap.size) :
    Calls Tryd.prog 42 #[.pointer (some ⟨b, 0, none⟩), .string s] w fun e w' => e = .returned (.tuple #[.int .i64 s.size, .nilIface]) ∧ Bd w' B b (out ++ s.data.toList) ∧ Below B w w' ∧ Kp b w w' :=
  (Tryd.Builder_WriteString_k B b (Lib.byteCells out) s w h (by rw [Lib.byteCells_length]; omega) hB).mono fun _ _ ⟨h1, h2, h3, h4⟩ => ⟨h1, Or.inr (by rw [Lib.byteCells_append]; exact h2), h3, h4⟩
theorem bd_get {w : World} {B b : Nat} {out : List UInt8} (h : Bd w B b out) (hB : B ≤ w.heap.size) :
    Calls Tryd.prog 45 #[.pointer (some ⟨b, 0, none⟩)] w fun e w' => e = .returned (.string ⟨out.toArray⟩) ∧ Below B w w' :=
  (Tryd.Builder_String_any_k B b out w h hB).mono fun _ _ ⟨h1, _, h3, _⟩ => ⟨h1, h3⟩
/-- A variable that holds a pair, as its block. -/
def Pz (w : World) (b : Nat) (x y : ByteArray) : Prop := w.heap[b]? = some (.cells #[.string x, .string y] 36 (0, 0))
theorem Pz.new (w : World) (x y : ByteArray) : Pz (w.alloc (.cells #[.string x, .string y] 36)) w.heap.size x y := heap_alloc_new w _
theorem Pz.lt {w : World} {b : Nat} {x y : ByteArray} (h : Pz w b x y) : b < w.heap.size := (Array.getElem?_eq_some_iff.1 h).1
theorem Pz.below {w w' : World} {b : Nat} {x y : ByteArray} (h : Pz w b x y) (hb : Below w.heap.size w w') : Pz w' b x y := (hb.block b h.lt).trans h
theorem Pz.kp {w w' : World} {b q : Nat} {x y : ByteArray} (h : Pz w q x y) (hk : Kp b w w') (hne : q ≠ b) : Pz w' q x y := hk q _ h (by simpa using hne) (fun _ _ e => by injection e with _ e2 _; exact absurd e2 (by decide))
theorem Pz.px {w : World} {b : Nat} {x y : ByteArray} (h : Pz w b x y) : Px w b x y :=
  ⟨h.lt, by simp [World.cell?, show w.heap[b]? = _ from h], by simp [World.cell?, show w.heap[b]? = _ from h], by simp [World.frozen?, show w.heap[b]? = _ from h], by simp [World.frozen?, show w.heap[b]? = _ from h]⟩
theorem Pz.ne {w : World} {B b q : Nat} {x y : ByteArray} {out : List UInt8} (h : Pz w q x y) (hb : Bd w B b out) : q ≠ b := by
  intro e
  subst e
  rcases hb with hb | hb <;>
  · obtain ⟨_, v, h2, _⟩ := hb
    rw [show w.heap[q]? = _ from h] at h2
    injection h2 with h2
    injection h2 with _ e2 _
    exact absurd e2 (by decide)

theorem tailL_snoc (l : List Pr) (p : Pr) : tailL (l ++ [p]) = tailL l ++ (44 :: comL p) := by
  induction l with
  | nil => simp [tailL]
  | cons q r ih => rw [List.cons_append, tailL, tailL, ih]; simp
theorem join_snoc (l : List Pr) (p : Pr) : joinL (l ++ [p]) = joinL l ++ ((if l = [] then [] else [44]) ++ comL p) := by
  cases l with
  | nil => simp [joinL, tailL]
  | cons q r => rw [List.cons_append, joinL, joinL, tailL_snoc]; simp
theorem join_take (l : List Pr) (k : Nat) (h : k < l.length) : joinL (l.take (k + 1)) = joinL (l.take k) ++ ((if k = 0 then [] else [44]) ++ comL l[k]) := by
  rw [List.take_succ_eq_append_getElem h, join_snoc]
  congr 2
  by_cases h0 : k = 0
  · simp [h0]
  · rw [if_neg h0, if_neg (by intro e; have := congrArg List.length e; rw [List.length_take, List.length_nil] at this; omega)]
theorem escL_snoc (v : List UInt8) (c : UInt8) : escL (v ++ [c]) = escL v ++ (if spB c then [92, c] else [c]) := by
  rw [escL_append]
  congr 1
theorem escL_le (v : List UInt8) : (escL v).length ≤ 2 * v.length := by
  induction v with
  | nil => exact Nat.le_refl _
  | cons x r ih => unfold escL; split <;> simp <;> omega
theorem foldL_le (l : List UInt8) : (foldL l).length ≤ l.length := by
  unfold foldL
  have h1 := sqTo_le (lowL (trimL l)) (lowL (trimL l)).length
  have h2 := trimL_le l
  rw [lowL_length] at h1 ⊢
  omega
theorem nam_len {l : List UInt8} (h : namL l = true) : l.length ≤ 64 := by simp [namL, madeL] at h; exact h.1.2.2
theorem cln_len {l : List UInt8} (h : clnL l = true) : l.length ≤ 256 := by simp [clnL] at h; exact h.1.2.2
theorem comL_len {p : Pr} (h1 : namL p.1 = true) (h2 : clnL p.2 = true) : (comL p).length ≤ 577 := by
  have a := nam_len h1
  have b := cln_len h2
  have c := foldL_le p.2
  have d := escL_le (foldL p.2)
  simp [comL, lowL_len]
  omega
theorem join_len {l : List Pr} (h : chkF l = 0) (k : Nat) (hk : k ≤ l.length) : (joinL (l.take k)).length ≤ k * 578 := by
  induction k with
  | zero => simp [joinL]
  | succ k ih =>
    have h1 := ih (by omega)
    have h2 := chkF_mem.1 h l[k] (List.getElem_mem _)
    have h3 := comL_len h2.1 h2.2
    rw [join_take l k (by omega), List.length_append, List.length_append]
    split <;> simp <;> omega

/-- Format's answer. -/
def FmtIs (w : World) (r : List UInt8 × Int) (e : Ending) (w' : World) : Prop :=
  ∃ t : ByteArray, e = .returned (.tuple #[.string t, .int .i64 r.2]) ∧ t.data.toList = r.1 ∧ Below w.heap.size w w'
theorem ret_fmt (c : Int) (r : List UInt8 × Int) (w w' : World) (h : r = ([], c)) (hb : Below w.heap.size w w') : FmtIs w r (.returned (.tuple #[.string ⟨#[]⟩, .int .i64 c])) w' := by
  subst h
  exact ⟨⟨#[]⟩, rfl, rfl, hb⟩
theorem own_base {w : World} {B B' : Nat} {v : Value} {n : Nat} {xs : List Value} (h : w.ownsRowF B 5 1 v n xs) (hb : B' ≤ B) : w.ownsRowF B' 5 1 v n xs := by
  refine ⟨h.1, ?_⟩
  rcases h.2 with hn | ⟨g, cap, cur, fz, hv, hg, rest⟩
  · exact Or.inl hn
  · exact Or.inr ⟨g, cap, cur, fz, hv, Nat.le_trans hb hg, rest⟩

set_option maxHeartbeats 8000000 in
theorem format_any (w : World) (A : Option Addr) (n c : Nat) (l : List B2) (hs : Ps w A n c l) (hz : Sh l) (hn : n ≤ 100000) :
    Calls Tryd.prog 17 #[.slice A n c] w (FmtIs w (fmt (prL l))) := by
  have HCK := Lib.hid (check_any w A n c l hs hz hn)
  have HS := Lib.hid hs
  have HL := Lib.hid hs.1
  have HZ := Lib.hid hz
  clear hs hz
  go_enter Tryd.func17, Tryd.ntmps17
  go_wp2_with fail
  refine HCK.out.mono ?_
  rintro e w0 ⟨rfl, hb0⟩
  have HBW := Lib.hid hb0
  have hw0 := hb0.size
  clear hb0
  by_cases hc : chkL (prL l) = 0
  · have HC := Lib.hid hc
    have HN8 := Lib.hid (show n ≤ 8 by have := (chkL_ok.1 hc).2; rw [prL_length] at this; have := HL.out; omega)
    rw [hc]
    clear hc
    obtain ⟨b0, hb0⟩ : ∃ b0, b0 = w0.heap.size := ⟨_, rfl⟩
    have HOW := Lib.hid (show Bd (w0.alloc (.cells #[.pointer none, .slice none 0 0] 55)) w.heap.size b0 [] by
      rw [hb0]
      rcases Bd.new w0 with h | h
      · obtain ⟨h1, v, h2, h3, h4⟩ := h
        exact Or.inl ⟨hw0, v, h2, own_base h3 hw0, h4⟩
      · obtain ⟨h1, v, h2, h3, h4⟩ := h
        exact Or.inr ⟨hw0, v, h2, own_base h3 hw0, h4⟩)
    have HBA := Lib.hid (HBW.out.alloc hw0 (.cells #[.pointer none, .slice none 0 0] 55))
    go_wp2
    rw [← hb0]
    clear hb0 hw0
    go_loopw [17, 8] (fun i _ wr => ∃ k : Nat, i = .int .i64 k ∧ k ≤ n ∧ Hid (Bd wr w.heap.size b0 (joinL ((prL l).take k))) ∧ Below w.heap.size w wr) (fun i _ _ => n - (intOf i).toNat)
    case atStart => exact ⟨0, rfl, Nat.zero_le _, HOW.out, HBA.out⟩
    case round =>
      obtain ⟨k, rfl, hk, HO, hb⟩ := hrel
      have HB := Lib.hid hb
      have hbz := hb.size
      have HSW := Lib.hid (HS.out.below hb)
      clear hb
      by_cases hlt : k < n
      · obtain ⟨b, off, rfl, hbl, hc⟩ := HSW.out.2.2 (by omega)
        obtain ⟨c0, c1⟩ := hc k hlt
        obtain ⟨z0, z1⟩ := HZ.out k (by rw [HL.out]; exact hlt)
        have HJ := Lib.hid (join_take (prL l) k (by rw [prL_length, HL.out]; exact hlt))
        rw [prL_at] at HJ
        have HM := Lib.hid (chkF_mem.1 (chkL_ok.1 HC.out).1 ((prL l)[k]'(by rw [prL_length, HL.out]; exact hlt)) (List.getElem_mem _))
        rw [prL_at] at HM
        have HLO := Lib.hid (show (joinL ((prL l).take k)).length ≤ 4624 by
          have h1 := join_len (chkL_ok.1 HC.out).1 k (by rw [prL_length, HL.out]; omega)
          have h2 := HN8.out
          omega)
        obtain ⟨x, hx⟩ : ∃ x, pX l k = x := ⟨_, rfl⟩
        obtain ⟨y, hy⟩ : ∃ y, pY l k = y := ⟨_, rfl⟩
        rw [hx] at c0 z0 HJ HM
        rw [hy] at c1 z1 HJ HM
        have HZX := Lib.hid z0
        have HZY := Lib.hid z1
        have HXL := Lib.hid (nam_len HM.out.1)
        have HYL := Lib.hid (cln_len HM.out.2)
        clear hx hy hc z0 z1
        have HZ0 := Lib.hid (Pz.new wr x y)
        have HO0 := Lib.hid (HO.out.alloc (.cells #[.string x, .string y] 36))
        have HB0 := Lib.hid (HB.out.alloc hbz (.cells #[.string x, .string y] 36))
        rcases Nat.eq_zero_or_pos k with hk0 | hk0
        · subst hk0
          simp only [Nat.zero_mul, Nat.add_zero] at c0 c1
          have HZ1 := HZ0
          have HO1 := HO0
          have HB1 := HB0
          have HL1 := Lib.hid (show (joinL ((prL l).take 0)).length ≤ 10000 by have := HLO.out; omega)
          have HJ1 := Lib.hid (show joinL ((prL l).take (0 + 1)) = joinL ((prL l).take 0) ++ comL (x.data.toList, y.data.toList) by rw [HJ.out, if_pos rfl]; simp)
          obtain ⟨out1, ho1⟩ : ∃ out1, out1 = (joinL ((prL l).take 0)) := ⟨_, rfl⟩
          rw [← ho1] at HO1 HL1 HJ1
          clear ho1
          obtain ⟨w1, hw1⟩ : ∃ w1, w1 = wr.alloc (.cells #[.string x, .string y] 36) := ⟨_, rfl⟩
          rw [← hw1] at HO1 HZ1 HB1
          obtain ⟨p0, p1, p2, p3, p4⟩ := HZ1.out.px
          go_wp2_with fail
          rw [← hw1]
          clear hw1 HO0 HZ0 HB0 p0 p1 p2 p3 p4
          go_at_call 23
          refine (lower_t x w1 HZX.out).mono ?_
          rintro e w2 ⟨t2, rfl, ht2, hb2⟩
          have HT2 := Lib.hid ht2
          have HZ2 := Lib.hid (HZ1.out.below hb2)
          have HO2 := Lib.hid (HO1.out.below hb2)
          have HB2 := Lib.hid (HB1.out.trans (hb2.mono HB1.out.size))
          have ht2z : t2.size ≤ 100000 := by have h1 := congrArg List.length ht2; have h2 := HZX.out; simp [lowL_len] at h1; omega
          have HT2Z := Lib.hid ht2z
          have hbz2 := HB2.out.size
          clear ht2 hb2 ht2z
          go_wp2_with fail
          go_at_call 42
          refine (bd_str HO2.out t2 (by have := HL1.out; omega) HT2Z.out hbz2).mono ?_
          rintro e w3 ⟨rfl, h1, h2, h3⟩
          rw [HT2.out] at h1
          have HZ3 := Lib.hid (HZ2.out.kp h3 (HZ2.out.ne HO2.out))
          have HO3 := Lib.hid h1
          have HB3 := Lib.hid (HB2.out.trans h2)
          have hbz3 := HB3.out.size
          have HL3 := Lib.hid (show (out1 ++ lowL x.data.toList).length ≤ 20000 by rw [List.length_append, lowL_len]; have h4 := HL1.out; have h5 := HXL.out; omega)
          clear h1 h2 h3
          go_wp2_with fail
          go_at_call 41
          refine (bd_byte HO3.out 61 (by have := HL3.out; omega) hbz3).mono ?_
          rintro e w4 ⟨rfl, h1, h2, h3⟩
          have HZ4 := Lib.hid (HZ3.out.kp h3 (HZ3.out.ne HO3.out))
          have HO4 := Lib.hid h1
          have HB4 := Lib.hid (HB3.out.trans h2)
          clear h1 h2 h3
          obtain ⟨p0, p1, p2, p3, p4⟩ := HZ4.out.px
          go_wp2_with fail
          clear p0 p1 p2 p3 p4
          go_at_call 43
          refine (fold_t y w4 HZY.out).mono ?_
          rintro e w5 ⟨v, rfl, hv, hb5⟩
          have HV := Lib.hid hv
          have HO5 := Lib.hid (HO4.out.below hb5)
          have HB5 := Lib.hid (HB4.out.trans (hb5.mono HB4.out.size))
          have hvz : v.size ≤ 256 := by have h1 := congrArg List.length hv; have h2 := foldL_le y.data.toList; have h3 := HYL.out; simp at h1 h2 h3; omega
          have HJ5 := Lib.hid (show joinL ((prL l).take (0 + 1)) = ((out1 ++ lowL x.data.toList) ++ [61]) ++ escL v.data.toList by rw [HJ1.out, hv]; simp [comL])
          obtain ⟨out5, ho5⟩ : ∃ out5, out5 = (out1 ++ lowL x.data.toList) ++ [61] := ⟨_, rfl⟩
          have HL5 := Lib.hid (show out5.length ≤ 30000 by rw [ho5, List.length_append]; have := HL3.out; simp at *; omega)
          rw [← ho5] at HO5 HJ5
          clear hv hb5 ho5 HO4 HB4 HZ4 HO3 HB3 HZ3 HO2 HB2 HZ2 HO1 HB1 HZ1
          go_wp2
          go_loopw [35, 9] (fun i _ wq => ∃ j : Nat, i = .int .i64 j ∧ j ≤ v.size ∧ Hid (Bd wq w.heap.size b0 (out5 ++ escL (v.data.toList.take j))) ∧ Below w.heap.size w wq) (fun i _ _ => v.size - (intOf i).toNat)
          case atStart => exact ⟨0, rfl, Nat.zero_le _, (show Bd _ _ _ _ by simpa [escL] using HO5.out), HB5.out⟩
          case round =>
            obtain ⟨j, rfl, hj, HOQ, hbq⟩ := hrel
            have HBQ := Lib.hid hbq
            have hbqz := hbq.size
            clear hbq
            by_cases hlj : j < v.size
            · have hle := escL_le (v.data.toList.take j)
              have hlo : (out5 ++ escL (v.data.toList.take j)).length ≤ 40000 := by rw [List.length_append]; have := HL5.out; rw [List.length_take] at hle; simp at hle; omega
              have HLQ := Lib.hid hlo
              have HTK := Lib.hid (show out5 ++ escL (v.data.toList.take (j + 1)) = (out5 ++ escL (v.data.toList.take j)) ++ (if spB (v[j]'hlj) then [92, (v[j]'hlj)] else [(v[j]'hlj)]) by rw [take_snoc v j hlj, escL_snoc, List.append_assoc])
              clear hle hlo
              cases hsp : spB (v[j]'hlj) with
              | true =>
                have HS := Lib.hid hsp
                rw [hsp] at HTK
                clear hsp
                go_wp2_with (first | (go_at_call 44; refine (special_is _ _ _ HS.out).mono ?_; rintro e w6 ⟨rfl, rfl⟩) | fail)
                go_at_call 41
                refine (bd_byte HOQ.out 92 (by have := HLQ.out; omega) hbqz).mono ?_
                rintro e w7 ⟨rfl, h1, h2, h3⟩
                have HO7 := Lib.hid h1
                have HB7 := Lib.hid (HBQ.out.trans h2)
                have hbz7 := HB7.out.size
                clear h1 h2 h3
                go_wp2_with (go_at_call 41; refine (bd_byte HO7.out (v[j]'hlj) (by rw [List.length_append]; have := HLQ.out; simp at *; omega) hbz7).mono ?_; rintro e w8 ⟨rfl, h1, h2, h3⟩; have HO8 := Lib.hid h1; have HB8 := Lib.hid (HB7.out.trans h2); clear h1 h2 h3)
                go_roundw
                case rel => exact ⟨j + 1, by go_num, by omega, (show Bd _ _ _ _ by rw [HTK.out]; simpa using HO8.out), HB8.out⟩
                case measure => simp [intOf]; omega
              | false =>
                have HS := Lib.hid hsp
                rw [hsp] at HTK
                clear hsp
                go_wp2_with (first | (go_at_call 44; refine (special_is _ _ _ HS.out).mono ?_; rintro e w6 ⟨rfl, rfl⟩) | (go_at_call 41; refine (bd_byte HOQ.out (v[j]'hlj) (by have := HLQ.out; omega) hbqz).mono ?_; rintro e w8 ⟨rfl, h1, h2, h3⟩; have HO8 := Lib.hid h1; have HB8 := Lib.hid (HBQ.out.trans h2); clear h1 h2 h3))
                go_roundw
                case rel => exact ⟨j + 1, by go_num, by omega, (show Bd _ _ _ _ by rw [HTK.out]; simpa using HO8.out), HB8.out⟩
                case measure => simp [intOf]; omega
            · have HE := Lib.hid (show v.data.toList.take j = v.data.toList from List.take_of_length_le (by simp; omega))
              go_wp2
              go_roundw
              case rel => exact ⟨0 + 1, by go_num, by omega, by rw [HJ5.out, ← HE.out]; exact HOQ.out, HBQ.out⟩
              case measure => simp [intOf]; omega
        · go_wp2_with fail
          go_at_call 41
          refine (bd_byte HO0.out 44 (by have := HLO.out; omega) (by simp; omega)).mono ?_
          rintro e w1 ⟨rfl, h1, h2, h3⟩
          have HZ1 := Lib.hid (HZ0.out.kp h3 (HZ0.out.ne HO0.out))
          have HO1 := Lib.hid h1
          have HB1 := Lib.hid (HB0.out.trans h2)
          have HL1 := Lib.hid (show (joinL ((prL l).take k) ++ [44]).length ≤ 10000 by rw [List.length_append]; have := HLO.out; simp; omega)
          have HJ1 := Lib.hid (show joinL ((prL l).take (k + 1)) = (joinL ((prL l).take k) ++ [44]) ++ comL (x.data.toList, y.data.toList) by rw [HJ.out, if_neg (by omega)]; simp)
          clear h1 h2 h3
          obtain ⟨out1, ho1⟩ : ∃ out1, out1 = (joinL ((prL l).take k) ++ [44]) := ⟨_, rfl⟩
          rw [← ho1] at HO1 HL1 HJ1
          clear ho1
          clear HO0 HZ0 HB0
          obtain ⟨p0, p1, p2, p3, p4⟩ := HZ1.out.px
          go_wp2_with fail
          clear p0 p1 p2 p3 p4
          go_at_call 23
          refine (lower_t x w1 HZX.out).mono ?_
          rintro e w2 ⟨t2, rfl, ht2, hb2⟩
          have HT2 := Lib.hid ht2
          have HZ2 := Lib.hid (HZ1.out.below hb2)
          have HO2 := Lib.hid (HO1.out.below hb2)
          have HB2 := Lib.hid (HB1.out.trans (hb2.mono HB1.out.size))
          have ht2z : t2.size ≤ 100000 := by have h1 := congrArg List.length ht2; have h2 := HZX.out; simp [lowL_len] at h1; omega
          have HT2Z := Lib.hid ht2z
          have hbz2 := HB2.out.size
          clear ht2 hb2 ht2z
          go_wp2_with fail
          go_at_call 42
          refine (bd_str HO2.out t2 (by have := HL1.out; omega) HT2Z.out hbz2).mono ?_
          rintro e w3 ⟨rfl, h1, h2, h3⟩
          rw [HT2.out] at h1
          have HZ3 := Lib.hid (HZ2.out.kp h3 (HZ2.out.ne HO2.out))
          have HO3 := Lib.hid h1
          have HB3 := Lib.hid (HB2.out.trans h2)
          have hbz3 := HB3.out.size
          have HL3 := Lib.hid (show (out1 ++ lowL x.data.toList).length ≤ 20000 by rw [List.length_append, lowL_len]; have h4 := HL1.out; have h5 := HXL.out; omega)
          clear h1 h2 h3
          go_wp2_with fail
          go_at_call 41
          refine (bd_byte HO3.out 61 (by have := HL3.out; omega) hbz3).mono ?_
          rintro e w4 ⟨rfl, h1, h2, h3⟩
          have HZ4 := Lib.hid (HZ3.out.kp h3 (HZ3.out.ne HO3.out))
          have HO4 := Lib.hid h1
          have HB4 := Lib.hid (HB3.out.trans h2)
          clear h1 h2 h3
          obtain ⟨p0, p1, p2, p3, p4⟩ := HZ4.out.px
          go_wp2_with fail
          clear p0 p1 p2 p3 p4
          go_at_call 43
          refine (fold_t y w4 HZY.out).mono ?_
          rintro e w5 ⟨v, rfl, hv, hb5⟩
          have HV := Lib.hid hv
          have HO5 := Lib.hid (HO4.out.below hb5)
          have HB5 := Lib.hid (HB4.out.trans (hb5.mono HB4.out.size))
          have hvz : v.size ≤ 256 := by have h1 := congrArg List.length hv; have h2 := foldL_le y.data.toList; have h3 := HYL.out; simp at h1 h2 h3; omega
          have HJ5 := Lib.hid (show joinL ((prL l).take (k + 1)) = ((out1 ++ lowL x.data.toList) ++ [61]) ++ escL v.data.toList by rw [HJ1.out, hv]; simp [comL])
          obtain ⟨out5, ho5⟩ : ∃ out5, out5 = (out1 ++ lowL x.data.toList) ++ [61] := ⟨_, rfl⟩
          have HL5 := Lib.hid (show out5.length ≤ 30000 by rw [ho5, List.length_append]; have := HL3.out; simp at *; omega)
          rw [← ho5] at HO5 HJ5
          clear hv hb5 ho5 HO4 HB4 HZ4 HO3 HB3 HZ3 HO2 HB2 HZ2 HO1 HB1 HZ1
          go_wp2
          go_loopw [35, 9] (fun i _ wq => ∃ j : Nat, i = .int .i64 j ∧ j ≤ v.size ∧ Hid (Bd wq w.heap.size b0 (out5 ++ escL (v.data.toList.take j))) ∧ Below w.heap.size w wq) (fun i _ _ => v.size - (intOf i).toNat)
          case atStart => exact ⟨0, rfl, Nat.zero_le _, (show Bd _ _ _ _ by simpa [escL] using HO5.out), HB5.out⟩
          case round =>
            obtain ⟨j, rfl, hj, HOQ, hbq⟩ := hrel
            have HBQ := Lib.hid hbq
            have hbqz := hbq.size
            clear hbq
            by_cases hlj : j < v.size
            · have hle := escL_le (v.data.toList.take j)
              have hlo : (out5 ++ escL (v.data.toList.take j)).length ≤ 40000 := by rw [List.length_append]; have := HL5.out; rw [List.length_take] at hle; simp at hle; omega
              have HLQ := Lib.hid hlo
              have HTK := Lib.hid (show out5 ++ escL (v.data.toList.take (j + 1)) = (out5 ++ escL (v.data.toList.take j)) ++ (if spB (v[j]'hlj) then [92, (v[j]'hlj)] else [(v[j]'hlj)]) by rw [take_snoc v j hlj, escL_snoc, List.append_assoc])
              clear hle hlo
              cases hsp : spB (v[j]'hlj) with
              | true =>
                have HS := Lib.hid hsp
                rw [hsp] at HTK
                clear hsp
                go_wp2_with (first | (go_at_call 44; refine (special_is _ _ _ HS.out).mono ?_; rintro e w6 ⟨rfl, rfl⟩) | fail)
                go_at_call 41
                refine (bd_byte HOQ.out 92 (by have := HLQ.out; omega) hbqz).mono ?_
                rintro e w7 ⟨rfl, h1, h2, h3⟩
                have HO7 := Lib.hid h1
                have HB7 := Lib.hid (HBQ.out.trans h2)
                have hbz7 := HB7.out.size
                clear h1 h2 h3
                go_wp2_with (go_at_call 41; refine (bd_byte HO7.out (v[j]'hlj) (by rw [List.length_append]; have := HLQ.out; simp at *; omega) hbz7).mono ?_; rintro e w8 ⟨rfl, h1, h2, h3⟩; have HO8 := Lib.hid h1; have HB8 := Lib.hid (HB7.out.trans h2); clear h1 h2 h3)
                go_roundw
                case rel => exact ⟨j + 1, by go_num, by omega, (show Bd _ _ _ _ by rw [HTK.out]; simpa using HO8.out), HB8.out⟩
                case measure => simp [intOf]; omega
              | false =>
                have HS := Lib.hid hsp
                rw [hsp] at HTK
                clear hsp
                go_wp2_with (first | (go_at_call 44; refine (special_is _ _ _ HS.out).mono ?_; rintro e w6 ⟨rfl, rfl⟩) | (go_at_call 41; refine (bd_byte HOQ.out (v[j]'hlj) (by have := HLQ.out; omega) hbqz).mono ?_; rintro e w8 ⟨rfl, h1, h2, h3⟩; have HO8 := Lib.hid h1; have HB8 := Lib.hid (HBQ.out.trans h2); clear h1 h2 h3))
                go_roundw
                case rel => exact ⟨j + 1, by go_num, by omega, (show Bd _ _ _ _ by rw [HTK.out]; simpa using HO8.out), HB8.out⟩
                case measure => simp [intOf]; omega
            · have HE := Lib.hid (show v.data.toList.take j = v.data.toList from List.take_of_length_le (by simp; omega))
              go_wp2
              go_roundw
              case rel => exact ⟨k + 1, by go_num, by omega, by rw [HJ5.out, ← HE.out]; exact HOQ.out, HBQ.out⟩
              case measure => simp [intOf]; omega
      · have e : k = n := by omega
        subst e
        have HT := Lib.hid (show (prL l).take k = prL l from List.take_of_length_le (by rw [prL_length, HL.out]; exact Nat.le_refl _))
        rw [HT.out] at HO
        have HF := Lib.hid (show fmt (prL l) = (joinL (prL l), 0) by rw [fmt, if_neg (by rw [HC.out]; simp)])
        go_wp2_with (go_at_call 45; refine (bd_get HO.out hbz).mono ?_; rintro e w1 ⟨rfl, hb1⟩; have HB1 := Lib.hid (HB.out.trans hb1); clear hb1)
        go_ret2
        exact ⟨⟨(joinL (prL l)).toArray⟩, by rw [HF.out]; rfl, by rw [HF.out], HB1.out⟩
  · have HR := Lib.hid (show fmt (prL l) = ([], chkL (prL l)) by rw [fmt, if_pos hc])
    obtain ⟨ce, hce⟩ : ∃ ce, chkL (prL l) = ce := ⟨_, rfl⟩
    rw [hce] at hc HR
    rw [hce]
    clear hce
    go_wp2
    go_ret2
    exact ret_fmt _ _ _ _ HR.out HBW.out
end Go.Proofs.YtjjcbbckihjapaaDoor.Na
