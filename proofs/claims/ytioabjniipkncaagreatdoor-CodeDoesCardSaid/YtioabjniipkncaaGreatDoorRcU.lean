/-
  The program's Purge.
-/
import Derived.Test.YtioabjniipkncaaGreatDoorRcR
import Derived.Maps.OwnSet
namespace Go.Proofs.YtioabjniipkncaaGreatDoor.Rc
open Go.RowKit Go.Proofs.YtioabjniipkncaaGreatDoor.Fo Go.Proofs.YtioabjniipkncaaGreatDoor.Rf Go.Maps Go.WideMaps

theorem add_q (t d : Int) (w : World) : Calls Tryz.prog 37 #[.int .i64 t, .int .i64 d] w fun e w' => e = .returned (.int .i64 (addC t d)) ∧ w' = w := (add_any t d w).mono fun _ _ ⟨h1, h2⟩ => ⟨h1, h2.symm⟩
theorem lim_q (t : Int) (w : World) : Calls Tryz.prog 23 #[.int .i64 t] w fun e w' => e = .returned (.int .i64 (limI t)) ∧ w' = w := (lim_any t w).mono fun _ _ ⟨h1, h2⟩ => ⟨h1, h2.symm⟩
theorem view_del {D : DataW Unit} {f : List UInt8 → Option (DataW Unit)} (h : View D f) (s : List UInt8) : View (D.del (.string s)) (fun x => if x = s then none else f x) := by
  obtain ⟨h1, h2⟩ := h
  refine ⟨fun x => ?_, fun x z => ?_⟩
  · by_cases e : x = s
    · subst e; simp only [if_true]; rw [has_del_same]; rfl
    · simp only [if_neg e]; rw [has_del_other (fun h => e (by injection h))]; exact h1 x
  · by_cases e : x = s
    · subst e; simp only [if_true]; rw [atKey_del_same]; rfl
    · simp only [if_neg e]; rw [atKey_del_other (fun h => e (by injection h))]; exact h2 x z
/-- What is left of the codes while they are purged. -/
def plL (left : Lit → Bool) (o : Cd → Bool) (pl : List (Nat × Cd)) : List (Nat × Cd) := pl.filter fun q => left (kyC q.2) || !o q.2
theorem mem_plL {left : Lit → Bool} {o : Cd → Bool} {pl : List (Nat × Cd)} {q : Nat × Cd} : q ∈ plL left o pl ↔ q ∈ pl ∧ (left (kyC q.2) = true ∨ o q.2 = false) := by
  unfold plL
  rw [List.mem_filter]
  simp
theorem filter_one {pl : List (Nat × Cd)} {P Q : Nat × Cd → Bool} {r : Nat × Cd} (hn : (pl.map fun q => q.2.w).Nodup) (hr : r ∈ pl) (h1 : P r = true) (h2 : Q r = false) (h : ∀ x ∈ pl, x.2.w ≠ r.2.w → Q x = P x) : (pl.filter Q).length + 1 = (pl.filter P).length := by
  induction pl with
  | nil => simp at hr
  | cons y l ih =>
    simp only [List.map_cons, List.nodup_cons] at hn
    rcases List.mem_cons.1 hr with rfl | hr'
    · have e : l.filter Q = l.filter P := List.filter_congr fun x hx => h x (List.mem_cons_of_mem _ hx) (fun e => hn.1 (by rw [← e]; exact List.mem_map.2 ⟨x, hx, rfl⟩))
      rw [List.filter_cons, List.filter_cons, h1, h2, e]
      simp
    · have hne : y.2.w ≠ r.2.w := fun e => hn.1 (by rw [e]; exact List.mem_map.2 ⟨r, hr', rfl⟩)
      have e := h y List.mem_cons_self hne
      have := ih hn.2 hr' (fun x hx => h x (List.mem_cons_of_mem _ hx))
      rw [List.filter_cons, List.filter_cons, e]
      split
      · simp only [List.length_cons]; omega
      · exact this
theorem plL_start {left : Lit → Bool} {o : Cd → Bool} {pl : List (Nat × Cd)} {l : List Cd} (hl : pl.map Prod.snd = l) (h : ∀ x ∈ l, left (kyC x) = true) : plL left o pl = pl := by
  unfold plL
  rw [List.filter_eq_self]
  intro q hq
  rw [h q.2 (snd_mem hl hq)]
  rfl
theorem plL_end {left : Lit → Bool} {o : Cd → Bool} {pl : List (Nat × Cd)} (h : ∀ z, left z = false) : plL left o pl = pl.filter fun q => !o q.2 := by
  unfold plL
  simp [h]
/-- The codes are those that stayed. -/
theorem rep_purge {w w' : World} {S I : Nat → Prop} {F M : Nat} {st : Ct} {pl : List (Nat × Cd)} {now : Int} {D : DataW Unit} {f1 : List UInt8 → Option (DataW Unit)} {r n : Nat} {left : Lit → Bool} {cnt : Nat} (h : RepP w S I F st M pl) (hl : ∀ z, left z = false) (hrg : w'.ranges Tryz.prog 9 ptrR M r n D left cnt) (hv : View D f1) (hs : ∀ x d, f1 x = some d ↔ ∃ p ∈ plL left (old st.life now) pl, p.2.w.data.toList = x ∧ d = .lit (.int .i64 (p.1 : Nat))) (hz : Maps.size D = (plL left (old st.life now) pl).length) (hm : Mods (fun k => k = M) w w') :
    RepP w' (Go.Proofs.YtioabjniipkncaaGreatDoor.grow S w w') I F (puS st now) M (plL left (old st.life now) pl) := by
  have hsub : ∀ q ∈ plL left (old st.life now) pl, q ∈ pl := fun q hq => (mem_plL.1 hq).1
  have hk : ∀ k, S k → k ≠ M → w'.heap[k]? = w.heap[k]? := fun k e hne => hm.block k (h.lt k e) hne
  have hkI : ∀ k, I k → w'.heap[k]? = w.heap[k]? := fun k e => hk k (h.sI k e) (fun e2 => h.s1.2 (by rw [← e2]; exact e))
  have ho := own_exact hrg.owns
  rw [hz] at ho
  have hFM : F ≠ M := fun e => by
    obtain ⟨f0, m1, _⟩ := h.h1
    obtain ⟨es, cl, hmm⟩ := m1.isMap
    have := h.hF
    rw [e, hmm] at this
    cases this
  refine ⟨(hk F h.sF.1 hFM).trans h.hF, ⟨f1, ⟨D, ho, hz, hv⟩, hs⟩, ?_, fun p hp => ?_, fun p hp => ⟨Or.inl (h.sb p (hsub p hp)).1, (h.sb p (hsub p hp)).2⟩, fun k e => Or.inl (h.sI k e), h.nd.sublist ((List.filter_sublist (l := pl)).map _), ⟨Or.inl h.sF.1, h.sF.2⟩, ⟨Or.inl h.s1.1, h.s1.2⟩, fun k e => ?_, inv_filter h.inv _⟩
  · rw [plL_end hl]
    show (pl.filter ((fun x => !old st.life now x) ∘ Prod.snd)).map Prod.snd = st.l.filter fun x => !old st.life now x
    rw [← h.hl, List.filter_map]
  · exact (h.hb p (hsub p hp)).keep (fun _ e => e) (hk _ (h.sb p (hsub p hp)).1 (h.apart (hsub p hp)).1.symm) hkI hm.size
  · rcases e with e | e
    · exact Nat.lt_of_lt_of_le (h.lt k e) hm.size
    · exact e.2
theorem wnd {pl : List (Nat × Cd)} {l : List Cd} (hl : pl.map Prod.snd = l) (hn : (l.map Cd.w).Nodup) : (pl.map fun q => q.2.w).Nodup := by
  rw [← hl, List.map_map] at hn
  exact hn
theorem purge_step {pl : List (Nat × Cd)} {l : List Cd} {left left2 : Lit → Bool} {o : Cd → Bool} {r : Nat × Cd} {D : DataW Unit} {f : List UInt8 → Option (DataW Unit)} (hl : pl.map Prod.snd = l) (hn : (l.map Cd.w).Nodup) (hr : r ∈ pl) (hlf : left (kyC r.2) = true) (ho : o r.2 = true) (hv : View D f) (hs : ∀ x d, f x = some d ↔ ∃ p ∈ plL left o pl, p.2.w.data.toList = x ∧ d = .lit (.int .i64 (p.1 : Nat))) (hz : Maps.size D = (plL left o pl).length) (ht : Tidy D)
    (h2 : ∀ z, left2 z = ((left z && !z.sameKey (kyC r.2)) && !z.sameKey (kyC r.2))) : (∀ x d, (if x = r.2.w.data.toList then none else f x) = some d ↔ ∃ p ∈ plL left2 o pl, p.2.w.data.toList = x ∧ d = .lit (.int .i64 (p.1 : Nat))) ∧ Maps.size (D.del (.string r.2.w.data.toList)) = (plL left2 o pl).length := by
  have hoth : ∀ x : Cd, x.w ≠ r.2.w → left2 (kyC x) = left (kyC x) := fun x hne => by rw [h2, kyC_ne (fun e => hne e.symm)]; simp
  have hself : left2 (kyC r.2) = false := by rw [h2, kyC_self]; simp
  have hrm : r ∈ plL left o pl := mem_plL.2 ⟨hr, Or.inl hlf⟩
  refine ⟨fun x d => ?_, ?_⟩
  · by_cases e : x = r.2.w.data.toList
    · rw [if_pos e]
      refine ⟨(fun h => by cases h), (fun ⟨p, hp, e1, _⟩ => ?_)⟩
      have e2 : p.2.w = r.2.w := bs_ext (e1.trans e)
      have := pl_inj hl hn (mem_plL.1 hp).1 hr e2
      subst this
      rcases (mem_plL.1 hp).2 with h3 | h3
      · rw [hself] at h3; cases h3
      · rw [ho] at h3; cases h3
    · rw [if_neg e, hs]
      constructor
      · rintro ⟨p, hp, e1, e2⟩
        have hne : p.2.w ≠ r.2.w := fun h => e (by rw [← e1, h])
        exact ⟨p, mem_plL.2 ⟨(mem_plL.1 hp).1, by rw [hoth _ hne]; exact (mem_plL.1 hp).2⟩, e1, e2⟩
      · rintro ⟨p, hp, e1, e2⟩
        have hne : p.2.w ≠ r.2.w := fun h => e (by rw [← e1, h])
        exact ⟨p, mem_plL.2 ⟨(mem_plL.1 hp).1, by rw [← hoth _ hne]; exact (mem_plL.1 hp).2⟩, e1, e2⟩
  · have h3 := size_del (k := .string r.2.w.data.toList) ht
    rw [hv.1, (hs _ _).2 ⟨r, hrm, rfl, rfl⟩, hz] at h3
    have h4 := filter_one (P := fun q => left (kyC q.2) || !o q.2) (Q := fun q => left2 (kyC q.2) || !o q.2) (wnd hl hn) hr (by simp [hlf]) (by simp [hself, ho]) (fun x _ hne => by simp only [hoth _ hne])
    simp only [Option.isSome_some, if_true] at h3
    unfold plL at h3 ⊢
    omega
theorem purge_keep {pl : List (Nat × Cd)} {l : List Cd} {left : Lit → Bool} {o : Cd → Bool} {r : Nat × Cd} (hl : pl.map Prod.snd = l) (hn : (l.map Cd.w).Nodup) (hr : r ∈ pl) (hlf : left (kyC r.2) = true) (ho : o r.2 = false) : plL (fun z => left z && !z.sameKey (kyC r.2)) o pl = plL left o pl := by
  unfold plL
  refine List.filter_congr fun x hx => ?_
  dsimp only
  by_cases e : x.2.w = r.2.w
  · have := pl_inj hl hn hx hr e
    subst this
    rw [kyC_self, hlf, ho]
    rfl
  · rw [kyC_ne (fun h => e h.symm)]
    simp
set_option maxRecDepth 100000 in
set_option maxHeartbeats 4000000 in
theorem purge_any {w : World} {S : Nat → Prop} {F : Nat} {st : Ct} (h : RepE w S F st) (now : Int) :
    Calls Tryz.prog 22 #[.pointer (some ⟨F, 0, none⟩), .int .i64 now] w (NumIs w S F ((st.l.length : Int) - ((puS st now).l.length : Int)) (puS st now)) := by
  obtain ⟨I, M, pl, h⟩ := h
  have c0 := h.c0
  have c1 := h.c1
  have hr := len_run h
  have HNi := Lib.hid h.inv.ids
  have hl256 := h.inv.len
  have hFlt := h.lt _ h.sF.1
  have hMlt := h.lt _ h.s1.1
  have HMS := Lib.hid h.s1.1
  obtain ⟨f1, ⟨D, ho, hsz, hv⟩, v1⟩ := h.h1
  have HL := Lib.hid h.hl
  have HV := Lib.hid hv
  have HO := Lib.hid ho
  have HH := Lib.hid (has_all hv v1 h.hl)
  have HV0 := Lib.hid (show ∀ x d, f1 x = some d ↔ ∃ p ∈ plL (Maps.has D) (old st.life now) pl, p.2.w.data.toList = x ∧ d = .lit (.int .i64 (p.1 : Nat)) by rw [plL_start h.hl HH.out]; exact v1)
  have HSZ := Lib.hid (show Maps.size D = (plL (Maps.has D) (old st.life now) pl).length by rw [plL_start h.hl HH.out]; exact hsz)
  have H := Lib.hid h
  have HFM := Lib.hid (show F ≠ M from fun e => by
    obtain ⟨f0, m1, _⟩ := h.h1
    obtain ⟨es, cl, hmm⟩ := m1.isMap
    have := h.hF
    rw [e, hmm] at this
    cases this)
  clear h hv v1 hsz ho
  go_enter Tryz.func22, Tryz.ntmps22
  go_wp2_with (first | (go_at_call 33; refine (made_yes H.out).mono ?_; rintro e w1 ⟨rfl, rfl⟩) | (at_range; refine wpList_range_own _ rfl _ 55 rfl 9 61 (Go.Maps.string_keyed strT) map1 ptrR M pl.length D rfl HO.out ?_; intro w0 hrg0 hg0 hs0))
  go_frame
  have HR0 := Lib.hid hrg0
  have HB0 := Lib.hid (show Below w.heap.size w w0 from (Below.refl _ _).grown hg0 (Nat.le_refl _) (fun k e => by cases e))
  clear hrg0 hg0 hr
  go_loopw [6, 7] (fun _ _ wr => ∃ (left : Lit → Bool) (cnt : Nat) (D : DataW Unit) (f1 : List UInt8 → Option (DataW Unit)), wr.ranges Tryz.prog 9 ptrR M w.heap.size pl.length D left cnt ∧ Hid (View D f1) ∧ Hid (∀ x d, f1 x = some d ↔ ∃ p ∈ plL left (old st.life now) pl, p.2.w.data.toList = x ∧ d = .lit (.int .i64 (p.1 : Nat))) ∧ Hid (Maps.size D = (plL left (old st.life now) pl).length) ∧ Hid (Mods (fun k => k = M) w wr)) (fun _ _ wr => wr.rangeLeft M w.heap.size)
  case atStart => exact ⟨Maps.has D, Maps.size D, D, f1, HR0.out, HV.out, HV0.out, HSZ.out, Mods.of_below _ HB0.out⟩
  case round =>
    obtain ⟨left, cnt, D', f', hrg, HV', HS', HZ', HM⟩ := hrel
    have HRG := Lib.hid hrg
    have HP := Lib.hid (show ∀ x d, f' x = some d → ∃ q : Nat, d = .lit (.int .i64 (q : Nat)) from fun x d hx => by obtain ⟨p, _, _, e⟩ := (HS'.out x d).1 hx; exact ⟨p.1, e⟩)
    clear hrg
    go_wp2_with (at_next; refine wpList_next_view rfl _ rfl 9 strT M w.heap.size _ D' f' HV'.out HP.out left cnt rfl HRG.out ?_ ?_)
    · intro hl
      have HRE := Lib.hid (rep_purge H.out hl HRG.out HV'.out HS'.out HZ'.out HM.out)
      have hr := len_run HRE.out
      have c1' := HRE.out.c1
      have hp256 := HRE.out.inv.len
      have HMM := Lib.hid (HM.out.mono (S' := S) (fun k e => by subst e; exact HMS.out))
      clear hl
      go_wp2
      go_ret
      exact ⟨rfl, ⟨I, M, _, HRE.out⟩, HMM.out⟩
    · intro s q w2 cnt2 hf hlk hrg2 hlt hg2 hs2 hen
      obtain ⟨r, hp, hps, hpq⟩ := (HS'.out _ _).1 hf
      simp only [DataW.lit.injEq, Lit.int.injEq, true_and] at hpq
      have hq : q = r.1 := by omega
      subst hq
      have hs : s = r.2.w := (bs_ext hps).symm
      subst hs
      have hpl := (mem_plL.1 hp).1
      have HRG2 := Lib.hid hrg2
      have HM2 := Lib.hid (HM.out.grown hg2 (fun b e => by injection e with e; subst e; exact Or.inr (Nat.le_refl _)))
      have HLT2 := Lib.hid hlt
      have HPP := Lib.hid hpl
      have HLF := Lib.hid (show left (kyC r.2) = true from hlk)
      obtain ⟨A, c, hblk, _, _⟩ := H.out.hb _ hpl
      have hrl := H.out.lt _ (H.out.sb _ hpl).1
      have hap := H.out.apart hpl
      have k11 := cell_block ((HM2.out.block r.1 hrl hap.1.symm).trans hblk) 11
      have c0' := cell_block ((HM2.out.block F hFlt HFM.out).trans H.out.hF) 0
      have c1' := cell_block ((HM2.out.block F hFlt HFM.out).trans H.out.hF) 1
      simp only [List.getElem?_toArray, List.getElem?_cons_zero, List.getElem?_cons_succ] at k11 c0' c1'
      have HSW := Lib.hid (show r.2.w.size ≤ maxLen from mx_le (by have := H.out.inv.sz r.2 (snd_mem HL.out hpl); omega))
      have hwhy : ∀ x ∈ pl, x.2.w ≠ r.2.w → ((left (kyC x.2) && !(kyC x.2).sameKey (kyC r.2)) : Bool) = left (kyC x.2) := fun x hx hne => by rw [kyC_ne (fun e => hne e.symm)]; simp
      have HW := Lib.hid hwhy
      clear hf hlk hrg2 hlt hg2 hps hpq hp hpl hwhy hap hblk
      cases ho : old st.life now r.2 with
      | true =>
        have hcmp : addC r.2.fin st.life ≤ limI now := of_decide_eq_true ho
        have HO2 := Lib.hid ho
        clear ho
        go_wp2_with fail
        go_quiet ((first | (go_at_call 37; exact Calls.quiet_of_same (add_q _ _ _)) | (go_at_call 23; exact Calls.quiet_of_same (lim_q _ _))))
        go_wp2_with (at_delete; go_must (refine wpList_delete_ranges _ rfl _ _ 55 9 rfl 61 (Go.Maps.string_keyed strT) map1 ptrR M w.heap.size pl.length D' _ cnt2 rfl (ranges_below HRG2.out (below_drewN (Below.refl _ _) _)) (.string r.2.w) (.string r.2.w.data.toList) rfl (keyOf_string_mk strT HSW.out) ?_; intro w3 cnt3 hrg3 hle3 ht3))
        have HST := Lib.hid (purge_step (left2 := fun z => (left z && !z.sameKey (kyC r.2)) && !z.sameKey (kyC r.2)) HL.out HNi.out HPP.out HLF.out HO2.out HV'.out HS'.out HZ'.out (HRG.out.owns.tidy (Go.Maps.string_keyed strT)) (fun _ => rfl))
        have HRG3 := Lib.hid hrg3
        have HM3 := Lib.hid ((HM2.out.below (below_drewN (Below.refl _ _) _)).turned ht3 (Or.inl rfl))
        have HL3 := Lib.hid hle3
        clear hrg3 ht3 hle3
        go_roundw
        case rel => (repeat apply Exists.intro); exact ⟨⟨_, cnt3, _, _, HRG3.out, view_del HV'.out _, HST.out.1, HST.out.2, HM3.out⟩, rfl⟩
        case measure => rw [HRG3.out.left_eq, HRG.out.left_eq]; exact Nat.lt_of_le_of_lt HL3.out HLT2.out
      | false =>
        have hcmp : ¬ addC r.2.fin st.life ≤ limI now := of_decide_eq_false ho
        have HK := Lib.hid (show plL (fun z => left z && !z.sameKey (.string r.2.w.data.toList)) (old st.life now) pl = plL left (old st.life now) pl from purge_keep HL.out HNi.out HPP.out HLF.out ho)
        clear ho
        go_wp2_with fail
        go_quiet ((first | (go_at_call 37; exact Calls.quiet_of_same (add_q _ _ _)) | (go_at_call 23; exact Calls.quiet_of_same (lim_q _ _))))
        go_wp2
        have HRG3 := Lib.hid (ranges_below HRG2.out (below_drewN (Below.refl _ _) nq))
        go_roundw
        case rel => exact ⟨_, cnt2, D', f', HRG3.out, HV'.out, (by rw [HK.out]; exact HS'.out), (by rw [HK.out]; exact HZ'.out), HM2.out.below (below_drewN (Below.refl _ _) _)⟩
        case measure => rw [HRG3.out.left_eq, HRG.out.left_eq]; exact HLT2.out
end Go.Proofs.YtioabjniipkncaaGreatDoor.Rc
