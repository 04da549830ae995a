/-
  maps.DeleteFunc, Purge.
-/
import Derived.Test.YtapooonlbjgbgaaDoorDvK
import Derived.Laws.ByValue
namespace Go.Proofs.YtapooonlbjgbgaaDoor.Dv
open Go.RowKit Go.Proofs.YtapooonlbjgbgaaDoor.Fo Go.Proofs.YtapooonlbjgbgaaDoor.Rf Go.Maps Go.WideMaps

/-- The flows are those that stayed. -/
theorem rep_purge {w w' : World} {S I : Nat → Prop} {F M : Nat} {st : Fs} {pl : List (Nat × Fw)} {now : Int} {D : DataW Unit} {f1 : List UInt8 → Option (DataW Unit)} {r n : Nat} {left : Lit → Bool} {cnt : Nat} (h : RepP w S I F st M pl) (hl : ∀ z, left z = false) (hrg : w'.ranges Tryd.prog 9 ptrR M r n D left cnt) (hv : View D f1) (hs : ∀ x d, f1 x = some d ↔ ∃ p ∈ plL left (expd now) pl, p.2.w.data.toList = x ∧ d = .lit (.int .i64 (p.1 : Nat))) (hz : Maps.size D = (plL left (expd now) pl).length) (hm : Mods (fun k => k = M) w w') :
    RepP w' S I F (puS st now) M (plL left (expd now) pl) := by
  have hsub : ∀ q ∈ plL left (expd now) pl, q ∈ pl := fun q hq => (mem_plL.1 hq).1
  have hk : ∀ k, S k → k ≠ M → w'.heap[k]? = w.heap[k]? := fun k e hne => hm.block k (h.lt k e) hne
  have hkI : ∀ k, I k → w'.heap[k]? = w.heap[k]? := fun k e => hk k (h.sI k e) (fun e2 => h.s1.2 (by rw [← e2]; exact e))
  have ho := own_exact hrg.owns
  rw [hz] at ho
  refine ⟨(hk F h.sF.1 h.fm).trans h.hF, ⟨f1, ⟨D, ho, hz, hv⟩, hs⟩, ?_, fun p hp => ?_, fun p hp => h.sb p (hsub p hp), h.sI, h.nd.sublist ((List.filter_sublist (l := pl)).map _), h.sF, h.s1, fun k e => Nat.lt_of_lt_of_le (h.lt k e) hm.size, inv_filter h.inv _⟩
  · rw [plL_end hl]
    show (pl.filter ((fun x => !expd now x) ∘ Prod.snd)).map Prod.snd = st.l.filter fun x => !expd now x
    rw [← h.hl, List.filter_map]
  · exact (h.hb p (hsub p hp)).keep (fun _ e => e) (hk _ (h.sb p (hsub p hp)).1 (h.apart (hsub p hp)).1.symm) hkI hm.size
set_option maxRecDepth 100000 in
set_option maxHeartbeats 4000000 in
theorem del_any {w : World} {S I : Nat → Prop} {F M : Nat} {st : Fs} {pl : List (Nat × Fw)} (h : RepP w S I F st M pl) (pn : Nat) (now : Int) (hn : w.cell? ⟨pn, 0, none⟩ = some (.int .i64 now)) (hpM : pn ≠ M) :
    Calls Tryd.prog 66 #[.map (some M), .func (.func 67) #[] #[.pointer (some ⟨pn, 0, none⟩)]] w fun e w' => e = .returned (.tuple #[]) ∧ RepE w' S F (puS st now) ∧ (∃ pl', RepP w' S I F (puS st now) M pl') ∧ Mods (fun k => k = M) w w' := by
  have HNi := Lib.hid h.inv.ids
  have hMlt := h.lt _ h.s1.1
  obtain ⟨f1, ⟨D, ho, hsz, hv⟩, v1⟩ := h.h1
  have HL := Lib.hid h.hl
  have HV := Lib.hid hv
  have HO := Lib.hid ho
  have HH := Lib.hid (has_all hv v1 h.hl)
  have HV0 := Lib.hid (show ∀ x d, f1 x = some d ↔ ∃ p ∈ plL (Maps.has D) (expd now) pl, p.2.w.data.toList = x ∧ d = .lit (.int .i64 (p.1 : Nat)) by rw [plL_start h.hl HH.out]; exact v1)
  have HSZ := Lib.hid (show Maps.size D = (plL (Maps.has D) (expd now) pl).length by rw [plL_start h.hl HH.out]; exact hsz)
  have H := Lib.hid h
  have HN := Lib.hid hn
  have hE := entp
  clear h hv v1 hsz ho hn
  go_enter Tryd.func66, Tryd.ntmps66
  go_wp2_with (at_range; refine wpList_range_own _ rfl _ 64 rfl 9 77 (Go.Maps.string_keyed strT) map1 ptrR M pl.length D rfl HO.out ?_; intro w0 hrg0 hg0 hs0)
  go_frame
  have HR0 := Lib.hid hrg0
  have HB0 := Lib.hid (show Below w.heap.size w w0 from (Below.refl _ _).grown hg0 (Nat.le_refl _) (fun k e => by cases e))
  clear hrg0 hg0
  go_loopw [4, 5] (fun _ _ wr => ∃ (left : Lit → Bool) (cnt : Nat) (D : DataW Unit) (f1 : List UInt8 → Option (DataW Unit)), wr.ranges Tryd.prog 9 ptrR M w.heap.size pl.length D left cnt ∧ Hid (View D f1) ∧ Hid (∀ x d, f1 x = some d ↔ ∃ p ∈ plL left (expd now) pl, p.2.w.data.toList = x ∧ d = .lit (.int .i64 (p.1 : Nat))) ∧ Hid (Maps.size D = (plL left (expd now) pl).length) ∧ Hid (Mods (fun k => k = M) w wr)) (fun _ _ wr => wr.rangeLeft M w.heap.size)
  case atStart => exact ⟨Maps.has D, Maps.size D, D, f1, HR0.out, HV, HV0, HSZ, Lib.hid (Mods.of_below _ HB0.out)⟩
  case round =>
    obtain ⟨left, cnt, D', f', hrg, HV', HS', HZ', HM⟩ := hrel
    have HRG := Lib.hid hrg
    have HP := Lib.hid (show ∀ x d, f' x = some d → ∃ q : Nat, d = .lit (.int .i64 (q : Nat)) from fun x d hx => by obtain ⟨p, _, _, e⟩ := (HS'.out x d).1 hx; exact ⟨p.1, e⟩)
    clear hrg
    go_wp2_with (at_next; refine wpList_next_view rfl _ rfl 9 strT M w.heap.size _ D' f' HV'.out HP.out left cnt rfl HRG.out ?_ ?_)
    · intro hl
      have HRE := Lib.hid (rep_purge H.out hl HRG.out HV'.out HS'.out HZ'.out HM.out)
      clear hl
      go_wp2
      first | go_end0 | refine bodyPost_ret (results_none rfl _ _ _) rfl ?_
      exact ⟨rfl, rep_e HRE.out, ⟨_, HRE.out⟩, HM.out⟩
    · intro s q w2 cnt2 hf hlk hrg2 hlt hg2 hs2 hen
      obtain ⟨r, hp, hps, hpq⟩ := (HS'.out _ _).1 hf
      simp only [DataW.lit.injEq, Lit.int.injEq, true_and] at hpq
      have hq : q = r.1 := by omega
      subst hq
      have hs : s = r.2.w := (bs_ext hps).symm
      subst hs
      have hpl := (mem_plL.1 hp).1
      have HRG2 := Lib.hid hrg2
      have HM2 := Lib.hid (HM.out.grown hg2 (fun b e => by injection e with e; subst e; exact Or.inr (Nat.le_refl _)))
      have HLT2 := Lib.hid hlt
      have HPP := Lib.hid hpl
      have HLF := Lib.hid (show left (kyC r.2) = true from hlk)
      obtain ⟨A, c, A2, c2, hblk, _⟩ := H.out.hb _ hpl
      have hrl := H.out.lt _ (H.out.sb _ hpl).1
      have hap := H.out.apart hpl
      have k3 : w2.cell? ⟨r.1, 3, none⟩ = some (.int .i64 r.2.fin) := cell_block ((HM2.out.block r.1 hrl hap.1.symm).trans hblk) 3
      have hpnl := World.block_lt_of_cell? w _ HN.out
      simp only at hpnl
      have kn : w2.cell? ⟨pn, 0, none⟩ = some (.int .i64 now) := (World.cell?_of_block (HM2.out.block pn hpnl hpM)).trans HN.out
      have HSW := Lib.hid (show r.2.w.size ≤ maxLen from mx_le (by have := H.out.inv.sz r.2 (snd_mem HL.out hpl); omega))
      clear hf hlk hrg2 hlt hg2 hps hpq hp hpl hap hblk
      cases ho : expd now r.2 with
      | true =>
        have HO2 := Lib.hid ho
        clear ho
        go_wp2_with (first | (go_at_call 67; refine (purge1_any r.2.w k3 kn HO2.out).mono ?_; rintro e w3 ⟨rfl, hb3⟩; have HRG3 := Lib.hid (ranges_below HRG2.out hb3); have HM3 := Lib.hid (HM2.out.below hb3); clear hb3 k3 kn) | (at_delete; go_must (refine wpList_delete_ranges _ rfl _ _ 64 9 rfl 77 (Go.Maps.string_keyed strT) map1 ptrR M w.heap.size pl.length D' _ cnt2 rfl HRG3.out (.string r.2.w) (.string r.2.w.data.toList) rfl (keyOf_string_mk strT HSW.out) ?_; intro w4 cnt4 hrg4 hle4 ht4)))
        have HST := Lib.hid (purge_step (left2 := fun z => (left z && !z.sameKey (kyC r.2)) && !z.sameKey (kyC r.2)) HL.out HNi.out HPP.out HLF.out HO2.out HV'.out HS'.out HZ'.out (HRG.out.owns.tidy (Go.Maps.string_keyed strT)) (fun _ => rfl))
        have HRG4 := Lib.hid hrg4
        have HM4 := Lib.hid (HM3.out.turned ht4 (Or.inl rfl))
        have HL4 := Lib.hid hle4
        clear hrg4 ht4 hle4
        go_roundw
        case rel => (repeat apply Exists.intro); exact ⟨⟨_, cnt4, _, _, HRG4.out, Lib.hid (view_del HV'.out _), Lib.hid HST.out.1, Lib.hid HST.out.2, HM4⟩, rfl⟩
        case measure => rw [HRG4.out.left_eq, HRG.out.left_eq]; exact Nat.lt_of_le_of_lt HL4.out HLT2.out
      | false =>
        have HO2 := Lib.hid ho
        have HK := Lib.hid (show plL (fun z => left z && !z.sameKey (.string r.2.w.data.toList)) (expd now) pl = plL left (expd now) pl from purge_keep HL.out HNi.out HPP.out HLF.out ho)
        clear ho
        go_wp2_with (go_at_call 67; refine (purge1_any r.2.w k3 kn HO2.out).mono ?_; rintro e w3 ⟨rfl, hb3⟩; have HRG3 := Lib.hid (ranges_below HRG2.out hb3); have HM3 := Lib.hid (HM2.out.below hb3); clear hb3 k3 kn)
        go_roundw
        case rel => exact ⟨_, cnt2, D', f', HRG3.out, HV', Lib.hid (by rw [HK.out]; exact HS'.out), Lib.hid (by rw [HK.out]; exact HZ'.out), HM3⟩
        case measure => rw [HRG3.out.left_eq, HRG.out.left_eq]; exact HLT2.out
set_option maxRecDepth 100000 in
set_option maxHeartbeats 4000000 in
theorem pur_any {w : World} {S : Nat → Prop} {F : Nat} {st : Fs} (h : RepE w S F st) (now : Int) :
    Calls Tryd.prog 31 #[.pointer (some ⟨F, 0, none⟩), .int .i64 now] w fun e w' => e = .returned (.int .i64 ((st.l.length : Int) - ((puS st now).l.length : Int))) ∧ RepE w' S F (puS st now) ∧ Mods S w w' := by
  obtain ⟨w0, hw0⟩ : ∃ w0, w0 = w.alloc (.cells #[.int .i64 now] 3) := ⟨_, rfl⟩
  have HB0 := Lib.hid (show Below w.heap.size w w0 by rw [hw0]; go_grown)
  have HN0 := Lib.hid (show w0.heap[w.heap.size]? = some (.cells #[.int .i64 now] 3 (0, 0)) by rw [hw0]; exact heap_alloc_new _ _)
  obtain ⟨I, M, pl, h⟩ := h
  have H := Lib.hid h
  have H0 := Lib.hid (h.below HB0.out)
  have hl1 := h.inv.len
  have hl2 : (puS st now).l.length ≤ st.l.length := List.length_filter_le _ _
  clear h
  have c2 := H0.out.c2
  have hr := len_run H0.out
  obtain ⟨n1, hn1⟩ : ∃ n, st.l.length = n := ⟨_, rfl⟩
  obtain ⟨n2, hn2⟩ : ∃ n, (puS st now).l.length = n := ⟨_, rfl⟩
  rw [hn1] at hl1 hl2
  rw [hn2] at hl2
  rw [hn1] at hr
  have HN1 := Lib.hid hn1
  have HN2 := Lib.hid hn2
  rw [hn1, hn2]
  clear hn1 hn2
  have hmf : ∀ (fn : Fn) (first cap : Array Value) (w : World), (Instr.makeFunc fn first cap).run Tryd.prog w = .ok (.func fn first cap) w := fun _ _ _ _ => rfl
  go_enter Tryd.func31, Tryd.ntmps31
  go_upto_region 1 with fail
  rw [← hw0]
  clear hw0
  go_wp2_with fail
  refine (ready_yes H0.out).mono ?_
  rintro e wx ⟨rfl, rfl⟩
  go_wp2_with fail
  refine (del_any H0.out w.heap.size now (cell_block HN0.out 0) (fun e => by have := H.out.lt M H.out.s1.1; omega)).mono ?_
  rintro e w1 ⟨rfl, he1, ⟨pl', hrp⟩, hm1⟩
  have HR1 := Lib.hid hrp
  have HM1 := Lib.hid (mods_pre HB0.out (mods_blk hm1 H.out.s1.1))
  clear he1 hrp hm1 hr c2
  have c2 := HR1.out.c2
  have hr := len_run HR1.out
  rw [HN2.out] at hr
  go_wp2
  go_ret
  exact ⟨rfl, rep_e HR1.out, HM1.out⟩
end Go.Proofs.YtapooonlbjgbgaaDoor.Dv
