/-
  The walks of layer 5: Rebase, both.
-/
import Derived.Test.YtjjcbbckihjapaaDoorNaV
namespace Go.Proofs.YtjjcbbckihjapaaDoor.Na
open Go.RowKit Go.Proofs.YtjjcbbckihjapaaDoor.Fo

theorem reb_take (l m : List B2) : prL (l.take (l.length - m.length)) = (prL l).take ((prL l).length - (prL m).length) := by rw [prL_take, prL_length, prL_length]
theorem own2_empty (w : World) : Own2 (w.alloc (.cells #[] 36)) w.heap.size (.slice (some ⟨w.heap.size, 0, none⟩) 0 0) [] :=
  World.ownsRow_lit w #[] 0 (Nat.le_refl _) (by simp [maxLen]) rfl
/-- append onto a row of the call's own, with names of their own behind it. -/
theorem wpList_app2H {w : World} {ops : Array Oper} {rest : List Oper} {o : Oper} {a : Act} {Q : Exit → Act → World → Prop} (hgd : o.guard = none) (s x : Operand)
    (ho : o.op = .call { callee := .builtin .append, args := #[s, x], argTypes := #[24, 24] }) (base n0 c : Nat) (A : Option Addr) (l : List B2) (hn0 : n0 = l.length) (hs : a.eval s = .slice A n0 c) (hown : Own2 w base (.slice A l.length c) l)
    (B : Option Addr) (m d : Nat) (y : List B2) (hx : a.eval x = .slice B m d) (hy : Ps w B m d y) (hlen : n0 + m ≤ 1000000) (hb : base ≤ w.heap.size)
    (h : ∀ A' c' w' (L : List B2) (N : Nat), Hid (N = L.length) → Hid (L = l ++ y) → Hid (Own2 w' base (.slice A' L.length c') L) → Hid (Below base w w') → wpList Tryd.prog ops Q rest (a.put o.dst (.slice A' N c')) w') : wpList Tryd.prog ops Q (o :: rest) a w := by
  subst hn0
  exact wpList_app2 hgd s x ho base c A l hs hown B m d y hx hy hlen hb fun A' c' w' h1 h2 => h A' c' w' _ _ (Lib.hid rfl) (Lib.hid rfl) (Lib.hid h1) (Lib.hid h2)
set_option maxRecDepth 100000 in
set_option maxHeartbeats 8000000 in
theorem rebase_any (s f t : ByteArray) (w : World) (hs : s.size ≤ 100000) (hf : f.size ≤ 100000) (ht : t.size ≤ 100000) :
    Calls Tryd.prog 32 #[.string s, .string f, .string t] w (FmtIs w (reb s.data.toList f.data.toList t.data.toList)) := by
  have HS := Lib.hid hs
  have HF := Lib.hid hf
  have HT := Lib.hid ht
  clear hs hf ht
  go_enter Tryd.func32, Tryd.ntmps32
  go_wp2_with fail
  refine (normal_any s _ HS.out).mono ?_
  rintro e w1 ⟨A, c, l, rfl, hO, hl, hz, h8, hb⟩
  have HO := Lib.hid hO.ps.1
  have HL := Lib.hid hl
  have HZ := Lib.hid hz
  have HB := Lib.hid hb
  clear hO hl hz hb
  go_wp2_with fail
  refine (normal_any f _ HF.out).mono ?_
  rintro e w2 ⟨A2, c2, m, rfl, hO2, hl2, hz2, h82, hb2⟩
  have HO' := Lib.hid (HO.out.below hb2)
  have HO2 := Lib.hid hO2.ps.1
  have HL2 := Lib.hid hl2
  have HB2 := Lib.hid (HB.out.trans (hb2.mono HB.out.size))
  clear hO2 hl2 hz2 hb2
  go_wp2_with fail
  refine (normal_any t _ HT.out).mono ?_
  rintro e w3 ⟨A3, c3, n, rfl, hO3, hl3, hz3, h83, hb3⟩
  have HOl := Lib.hid (HO'.out.below hb3)
  have HOm := Lib.hid (HO2.out.below hb3)
  have HOn := Lib.hid hO3.ps.1
  have HL3 := Lib.hid hl3
  have HZ3 := Lib.hid hz3
  have HB3 := Lib.hid (HB2.out.trans (hb3.mono HB2.out.size))
  clear hO3 hl3 hz3 hb3
  cases h1 : valid s.data.toList with
  | false =>
    have HR := Lib.hid (reb_inv (f := f.data.toList) (t := t.data.toList) (Or.inl h1))
    clear h1
    go_wp2
    all_goals
      go_ret2
      exact ret_fmt 4 _ _ _ HR.out HB3.out
  | true =>
    cases h2 : valid f.data.toList with
    | false =>
      have HR := Lib.hid (reb_inv (s := s.data.toList) (t := t.data.toList) (Or.inr (Or.inl h2)))
      clear h1 h2
      go_wp2
      all_goals
        go_ret2
        exact ret_fmt 4 _ _ _ HR.out HB3.out
    | true =>
      cases h3 : valid t.data.toList with
      | false =>
        have HR := Lib.hid (reb_inv (s := s.data.toList) (f := f.data.toList) (Or.inr (Or.inr h3)))
        clear h1 h2 h3
        go_wp2
        all_goals
          go_ret2
          exact ret_fmt 4 _ _ _ HR.out HB3.out
      | true =>
        have H1 := Lib.hid h1
        have H2 := Lib.hid h2
        have H3 := Lib.hid h3
        have C1 := Lib.hid (HL.out h1)
        have C2 := Lib.hid (HL2.out h2)
        have C3 := Lib.hid (HL3.out h3)
        clear h1 h2 h3
        go_wp2_with fail
        refine (last_any w3 A A2 l.length c m.length c2 l m HOl.out HOm.out (by omega) (by omega)).mono ?_
        rintro e w4 ⟨rfl, hb4⟩
        have HB4 := Lib.hid (HB3.out.trans (hb4.mono HB3.out.size))
        have HOl4 := Lib.hid (HOl.out.below hb4)
        have HOn4 := Lib.hid (HOn.out.below hb4)
        clear hb4
        by_cases hsuf : prL m <:+ prL l
        · have hlen : m.length ≤ l.length := by have := hsuf.length_le; rw [prL_length, prL_length] at this; exact this
          have HSF := Lib.hid hsuf
          have HD := Lib.hid (show decide (prL m <:+ prL l) = true by simpa using hsuf)
          rw [HD.out]
          have g1 : IntKind.i64.wrap ((l.length : Int) - (m.length : Int)) = ((l.length - m.length : Nat) : Int) := by rw [show (l.length : Int) - (m.length : Int) = ((l.length - m.length : Nat) : Int) by omega]; exact IntWalk.i64_in _ (by omega)
          have hlc := HOl4.out.2.1
          have HPT := Lib.hid (HOl4.out.take (k := l.length - m.length) (d := l.length - m.length) (by omega) (Nat.le_refl _))
          clear hsuf
          have HSH := Lib.hid ((HZ.out.take (l.length - m.length)).append HZ3.out)
          have HP := Lib.hid (show prL (l.take (l.length - m.length) ++ n) = (cps s.data.toList).take ((cps s.data.toList).length - (cps f.data.toList).length) ++ cps t.data.toList by rw [prL_append, reb_take, C1.out, C2.out, C3.out])
          have HR := Lib.hid (reb_yes H1.out H2.out H3.out (show cps f.data.toList <:+ cps s.data.toList by rw [← C1.out, ← C2.out]; exact HSF.out))
          go_wp2_with (first | ((with_reducible refine at_dst 54 ?_); go_must (refine wpList_app2G rfl (.tmp 52) (.tmp 53) rfl (l.length - m.length) A (l.take (l.length - m.length)) rfl HPT.out A3 n.length c3 n rfl HOn4.out (by omega) ?_); intro A5 c5 w5 L HL5 HO5 hb5; have HB5 := Lib.hid (HB4.out.trans (hb5.out.mono HB4.out.size)); clear hb5) | fail)
          rw [← HL5.out] at HSH HP
          have HN1 := Lib.hid (show L.length ≤ 100 by rw [HL5.out]; simp; omega)
          refine (format_any w5 A5 L.length c5 L HO5.out HSH.out (by have := HN1.out; omega)).mono ?_
          rintro e w6 ⟨u, rfl, hu, hb6⟩
          have HU := Lib.hid hu
          have HB6 := Lib.hid (HB5.out.trans (hb6.mono HB5.out.size))
          clear hu hb6
          go_wp2
          go_ret2
          exact fmt_ret _ u _ _ _ (by rw [HR.out, ← HP.out]) (by rw [HR.out, ← HP.out]; exact HU.out) HB6.out
        · have HR := Lib.hid (reb_none H1.out H2.out H3.out (show ¬ cps f.data.toList <:+ cps s.data.toList by rw [← C1.out, ← C2.out]; exact hsuf))
          have HD := Lib.hid (show decide (prL m <:+ prL l) = false by simpa using hsuf)
          rw [HD.out]
          clear hsuf
          go_wp2
          go_ret2
          exact ret_fmt 6 _ _ _ HR.out HB4.out
set_option maxRecDepth 100000 in
set_option maxHeartbeats 8000000 in
theorem rrebase_any (s f t : ByteArray) (w : World) (hs : s.size ≤ 100000) (hf : f.size ≤ 100000) (ht : t.size ≤ 100000) :
    Calls Tryd.prog 33 #[.string s, .string f, .string t] w (FmtIs w (reb s.data.toList f.data.toList t.data.toList)) := by
  have HS := Lib.hid hs
  have HF := Lib.hid hf
  have HT := Lib.hid ht
  clear hs hf ht
  go_enter Tryd.func33, Tryd.ntmps33
  go_wp2_with fail
  refine (parts_any s _ HS.out).mono ?_
  rintro e w1 ⟨A, c, l, rfl, hO, hl, hz, h8, hb⟩
  have HO := Lib.hid hO.ps.1
  have HL := Lib.hid hl
  have HZ := Lib.hid hz
  have HB := Lib.hid hb
  clear hO hl hz hb
  go_wp2_with fail
  refine (parts_any f _ HF.out).mono ?_
  rintro e w2 ⟨A2, c2, m, rfl, hO2, hl2, hz2, h82, hb2⟩
  have HO' := Lib.hid (HO.out.below hb2)
  have HO2 := Lib.hid hO2.ps.1
  have HL2 := Lib.hid hl2
  have HB2 := Lib.hid (HB.out.trans (hb2.mono HB.out.size))
  clear hO2 hl2 hz2 hb2
  go_wp2_with fail
  refine (parts_any t _ HT.out).mono ?_
  rintro e w3 ⟨A3, c3, n, rfl, hO3, hl3, hz3, h83, hb3⟩
  have HOl := Lib.hid (HO'.out.below hb3)
  have HOm := Lib.hid (HO2.out.below hb3)
  have HOn := Lib.hid hO3.ps.1
  have HL3 := Lib.hid hl3
  have HZ3 := Lib.hid hz3
  have HB3 := Lib.hid (HB2.out.trans (hb3.mono HB2.out.size))
  clear hO3 hl3 hz3 hb3
  cases h1 : valid s.data.toList with
  | false =>
    have HR := Lib.hid (reb_inv (f := f.data.toList) (t := t.data.toList) (Or.inl h1))
    clear h1
    go_wp2
    all_goals
      go_ret2
      exact ret_fmt 4 _ _ _ HR.out HB3.out
  | true =>
    cases h2 : valid f.data.toList with
    | false =>
      have HR := Lib.hid (reb_inv (s := s.data.toList) (t := t.data.toList) (Or.inr (Or.inl h2)))
      clear h1 h2
      go_wp2
      all_goals
        go_ret2
        exact ret_fmt 4 _ _ _ HR.out HB3.out
    | true =>
      cases h3 : valid t.data.toList with
      | false =>
        have HR := Lib.hid (reb_inv (s := s.data.toList) (f := f.data.toList) (Or.inr (Or.inr h3)))
        clear h1 h2 h3
        go_wp2
        all_goals
          go_ret2
          exact ret_fmt 4 _ _ _ HR.out HB3.out
      | true =>
        have H1 := Lib.hid h1
        have H2 := Lib.hid h2
        have H3 := Lib.hid h3
        have C1 := HL
        have C2 := HL2
        have C3 := HL3
        clear h1 h2 h3
        go_wp2_with fail
        refine (runder_any s f w3 HS.out HF.out).mono ?_
        rintro e w4 ⟨rfl, hb4⟩
        have HB4 := Lib.hid (HB3.out.trans (hb4.mono HB3.out.size))
        have HOl4 := Lib.hid (HOl.out.below hb4)
        have HOn4 := Lib.hid (HOn.out.below hb4)
        have HU := Lib.hid (und_yes H1.out H2.out)
        clear hb4
        by_cases hsuf : cps f.data.toList <:+ cps s.data.toList
        · have hlen : m.length ≤ l.length := by have := hsuf.length_le; rw [← C1.out, ← C2.out, prL_length, prL_length] at this; exact this
          have HR := Lib.hid (reb_yes H1.out H2.out H3.out hsuf)
          have HD := Lib.hid (show und s.data.toList f.data.toList = true by rw [HU.out]; simpa using hsuf)
          rw [HD.out]
          have g1 : IntKind.i64.wrap ((l.length : Int) - (m.length : Int)) = ((l.length - m.length : Nat) : Int) := by rw [show (l.length : Int) - (m.length : Int) = ((l.length - m.length : Nat) : Int) by omega]; exact IntWalk.i64_in _ (by omega)
          have hlc := HOl4.out.2.1
          have HPT := Lib.hid (HOl4.out.take (k := l.length - m.length) (d := c) (by omega) (by omega))
          have HSH := Lib.hid ((HZ.out.take (l.length - m.length)).append HZ3.out)
          have HP := Lib.hid (show prL (l.take (l.length - m.length) ++ n) = (cps s.data.toList).take ((cps s.data.toList).length - (cps f.data.toList).length) ++ cps t.data.toList by rw [prL_append, reb_take, C1.out, C2.out, C3.out])
          clear hsuf
          go_wp2_with (first | ((with_reducible refine at_dst 51 ?_); go_must (refine wpList_app2H rfl (.tmp 43) (.tmp 50) rfl w4.heap.size 0 0 (some ⟨w4.heap.size, 0, none⟩) [] rfl rfl (own2_empty w4) A (l.length - m.length) c (l.take (l.length - m.length)) rfl (HPT.out.below ((Below.refl _ _).alloc (Nat.le_refl _) _)) (by simp; omega) (by simp) ?_); intro A5 c5 w5 L N HN5 HL5 HO5 hb5; rw [List.nil_append] at HL5; have HL5' := HL5; have HOn5 := Lib.hid (HOn4.out.below (((Below.refl w4.heap.size w4).alloc (Nat.le_refl _) (.cells #[] 36)).trans hb5.out)); have hlz5 : N ≤ 100 := (by rw [HN5.out, HL5.out]; simp; omega)) | ((with_reducible refine at_dst 53 ?_); go_must (refine wpList_app2H rfl (.tmp 51) (.tmp 52) rfl w4.heap.size N c5 A5 L HN5.out rfl HO5.out A3 n.length c3 n rfl HOn5.out (by omega) (by have := hb5.out.size; simp at this; omega) ?_); intro A6 c6 w6 L6 N6 HN6 HL6 HO6 hb6) | fail)
          rw [← HL5.out, ← HL6.out] at HSH HP
          have HBb := Lib.hid (hb5.out.size)
          have HB6 := Lib.hid ((HB4.out.trans ((((Below.refl w4.heap.size w4).alloc (Nat.le_refl _) (.cells #[] 36)).trans hb5.out).mono HB4.out.size)).trans (hb6.out.mono HB4.out.size))
          have HPS := Lib.hid (show Ps w6 A6 N6 c6 L6 by rw [HN6.out]; exact HO6.out.ps.1)
          have HN1 := Lib.hid (show N6 ≤ 200 by rw [HN6.out, HL6.out, List.length_append, ← HN5.out]; omega)
          refine (rformat_any w6 A6 N6 c6 L6 HPS.out HSH.out (by have := HN1.out; omega)).mono ?_
          rintro e w7 ⟨u, rfl, hu, hb7⟩
          have HU7 := Lib.hid hu
          have HB7 := Lib.hid (HB6.out.trans (hb7.mono HB6.out.size))
          clear hu hb7
          go_wp2
          go_ret2
          exact fmt_ret _ u _ _ _ (by rw [HR.out, ← HP.out]) (by rw [HR.out, ← HP.out]; exact HU7.out) HB7.out
        · have HR := Lib.hid (reb_none H1.out H2.out H3.out hsuf)
          have HD := Lib.hid (show und s.data.toList f.data.toList = false by rw [HU.out]; simpa using hsuf)
          rw [HD.out]
          clear hsuf
          go_wp2
          go_ret2
          exact ret_fmt 6 _ _ _ HR.out HB4.out
end Go.Proofs.YtjjcbbckihjapaaDoor.Na
