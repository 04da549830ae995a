/-
  The statements' run: the codes after operations.
-/
import Derived.Test.YtioabjniipkncaaDoorRcSb
namespace Go.Proofs.YtioabjniipkncaaDoor.Rc
open Go.RowKit Go.Proofs.YtioabjniipkncaaDoor.Fo Go.Proofs.YtioabjniipkncaaDoor.Rf Go.Maps

theorem life_red (st : Ct) (w c r : Bs) (pv : Gr → Bool) (now : Int) : (red st w c r pv now).1.life = st.life := by
  rcases red_cases st w c r pv now with ⟨e, _⟩ | ⟨i, x, k, hx, _, _, e⟩ <;> rw [e]
theorem life_iss (st : Ct) (w : Bs) (g : Gr) (now : Int) : (iss st w g now).1.life = st.life := by
  unfold iss; split <;> rfl
theorem life_do (st : Ct) (o : Opc) : (doC st o).1.life = st.life := by
  unfold doC
  split
  · exact life_iss _ _ _ _
  · split
    · exact life_red _ _ _ _ _ _
    · split
      · exact life_red _ _ _ _ _ _
      · split
        · rfl
        · split
          · rfl
          · split
            · rfl
            · split <;> rfl
/-- What run returns: codes that lie in new blocks, or none. -/
def RunIs (w : World) (life : Int) (e : Ending) (w' : World) : Prop :=
  (limI life = 0 ∧ e = .returned (.pointer none) ∧ Below w.heap.size w w') ∨ (limI life ≠ 0 ∧ ∃ F st, e = .returned (.pointer (some ⟨F, 0, none⟩)) ∧ RepB w' (fun k => w.heap.size ≤ k) F st ∧ st.life = limI life ∧ Below w.heap.size w w')
set_option maxRecDepth 100000 in
set_option maxHeartbeats 4000000 in
theorem run_any (w : World) (life : Int) (A : Option Addr) (n c : Nat) (l : List Opc) (m : Int) (hs : Os w A n c l) (hl : longB l m = false) (hmm : m ≤ 1000) (hm : MX w) (hd : DG w) :
    Calls Tryd.prog 11 #[.int .i64 life, .slice A n c] w (RunIs w life) := by
  have HS := Lib.hid hs
  have HL := Lib.hid hl
  have HM := Lib.hid hm
  have HD := Lib.hid hd
  have HLN := Lib.hid hs.1
  have hn : n ≤ 1000 := by have := long_len hl; have := hs.1; omega
  have HP := Lib.hid hm.pos
  clear hs hl hm hd
  by_cases hlf : limI life = 0
  · go_enter Tryd.func11, Tryd.ntmps11
    go_wp2_with fail
    refine (new_no hlf).mono ?_
    rintro e w1 ⟨rfl, rfl⟩
    have HLF := Lib.hid hlf
    clear hlf
    go_wp2
    go_ret
    exact Or.inl ⟨HLF.out, rfl, Below.refl _ _⟩
  · go_enter Tryd.func11, Tryd.ntmps11
    go_wp2_with fail
    refine (new_b (st := ⟨limI life, []⟩) hlf rfl).mono ?_
    rintro e w1 ⟨F, rfl, hr, hb⟩
    have HLF := Lib.hid hlf
    have HR1 := Lib.hid hr
    have HB1 := Lib.hid hb
    clear hlf hr hb
    go_wp2_with fail
    go_loopw [7, 17] (fun _ i wr => ∃ (k : Nat) (st : Ct), i = .int .i64 k ∧ k ≤ n ∧ RepB wr (fun k => w.heap.size ≤ k) F st ∧ Hid (st.life = limI life) ∧ Below w.heap.size w wr) (fun _ i _ => n - (intOf i).toNat)
    case atStart => exact ⟨0, _, rfl, Nat.zero_le _, HR1.out, Lib.hid rfl, HB1.out⟩
    case round =>
      obtain ⟨k, st, rfl, hk, hr, HLI, hb⟩ := hrel
      have HR := Lib.hid hr
      have HB := Lib.hid hb
      clear hr hb
      by_cases hlt : k < n
      · have HOK := Lib.hid (long_at HL.out (k := k) (by rw [HLN.out]; exact hlt))
        obtain ⟨bh, oh, Ah, dh, xh, rfl, hlh, hxh, h0, h1, h2, h3, h4, h5, h6, h7, h8, h9, h10, h11, h12, h13, h14, h15, h16, hsh⟩ := (HS.out.below HB.out).at hlt
        rw [hxh] at HOK
        have HSh := Lib.hid hsh
        clear hsh hxh
        go_wp2_with fail
        refine (do_b HR.out (fun k hk => Nat.le_trans HB.out.size hk) xh Ah dh HSh.out HOK.out (HM.out.below HB.out) (HD.out.below HB.out) (fun k hk => by have := HP.out; omega) rfl).mono ?_
        rintro e w2 ⟨B, d', rfl, _, _, hr, hm⟩
        have HR2 := Lib.hid hr
        have HB2 := Lib.hid (HB.out.trans (hm.toBelow HB.out.size (fun _ h => h)))
        have HLI2 := Lib.hid (show (doC st xh).1.life = limI life from (life_do st xh).trans HLI.out)
        clear hr hm h0 h1 h2 h3 h4 h5 h6 h7 h8 h9 h10 h11 h12 h13 h14 h15 h16
        go_wp2
        go_roundw
        case rel => exact ⟨k + 1, _, by go_num, by omega, HR2.out, HLI2, HB2.out⟩
        case measure => simp [intOf]; omega
      · go_wp2
        go_ret
        exact Or.inr ⟨HLF.out, F, st, rfl, HR.out, HLI.out, HB.out⟩
end Go.Proofs.YtioabjniipkncaaDoor.Rc
