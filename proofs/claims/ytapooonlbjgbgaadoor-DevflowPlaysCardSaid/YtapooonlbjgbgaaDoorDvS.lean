/-
  Start.
-/
import Derived.Test.YtapooonlbjgbgaaDoorDvU
import Derived.Laws.ByValue
import Derived.Laws.EntriesVeiled
namespace Go.Proofs.YtapooonlbjgbgaaDoor.Dv
open Go.RowKit Go.Proofs.YtapooonlbjgbgaaDoor.Fo Go.Proofs.YtapooonlbjgbgaaDoor.Rf Go.Maps Go.WideMaps

theorem word_is (s : Bs) (w : World) (hs : s.size ≤ 100000) {b : Bool} (h : wrd s = b) : Calls Tryd.prog 48 #[.string s] w fun e w' => e = .returned (.bool b) ∧ w = w' := by rw [← h]; exact word_any s w hs
theorem chk_is (A : Option Addr) (n c : Nat) (l : List Bs) (w : World) (hl : Ss w A n c l) (hsh : Short l) (hn : n ≤ 100000) (hm : MX w) {k : Int} (hk : chkS l = k) : Calls Tryd.prog 35 #[.slice A n c] w fun e w' => e = .returned (.int .i64 k) ∧ Below w.heap.size w w' := by
  rw [← hk]; exact (check_any A n c l w hl hsh hn hm).mono fun e w1 ⟨h1, h2⟩ => ⟨h1, h2 ▸ Below.refl _ _⟩
theorem sta_bad {st : Fs} {d u c : Bs} {sc : List Bs} {now k : Int} (h : stE st d u c sc now = k) (h0 : k ≠ 0) : sta st d u c sc now = (st, k) := by unfold sta; rw [if_neg (by rw [h]; exact h0), h]
/-- A flow is recorded in memory. -/
theorem rep_app {w2 w3 : World} {S I : Nat → Prop} {F M base d : Nat} {st : Fs} {pl : List (Nat × Fw)} {cd : Fw} {B : Option Addr} (h : RepP w2 S I F st M pl) (hinv : Inv { st with l := st.l ++ [cd] }) (hno : cdI st.l cd.w = none)
    (hfr : Fresh w2 base B d cd.scopes) (hbase : ∀ k, S k → k < base) (hb2 : base ≤ w2.heap.size) (hb3 : Below w2.heap.size w2 w3) (hcg : cd.g.scopes = []) (hnew : w3.heap[w2.heap.size]? = some (.cells #[.string cd.code, .string cd.client, .slice B cd.scopes.length d, .int .i64 cd.fin, .int .i64 cd.iv, .int .i64 cd.state, .string cd.g.user, .string cd.g.client, .string cd.g.tenant, .string cd.g.session, .string cd.g.redirect, .string cd.g.nonce, .string cd.g.challenge, .int .i64 cd.g.method, .slice none cd.g.scopes.length 0, .int .i64 cd.g.auth, .int .i64 cd.g.level, .bool cd.polled, .int .i64 cd.last] 81 (0, 0))) :
    ∃ w4, (Instr.mapUpdate 64 (.map (some M)) (.string cd.w) (.pointer (some ⟨w2.heap.size, 0, none⟩))).run Tryd.prog w3 = .ok () w4 ∧ RepE w4 (fun k => S k ∨ (base ≤ k ∧ k < w4.heap.size)) F { st with l := st.l ++ [cd] } ∧ Mods (fun k => k = M) w2 w4 ∧ S M ∧ F ≠ M := by
  obtain ⟨f1, m1, v1⟩ := h.h1
  have hM := h.lt _ h.s1.1
  have hF := h.lt _ h.sF.1
  have hlen : pl.length ≤ 256 := by
    have := hinv.len
    simp only [List.length_append, List.length_cons, List.length_nil] at this
    rw [show pl.length = st.l.length by rw [← h.hl, List.length_map]]
    omega
  have hsz := (hinv.sz cd (List.mem_append.2 (Or.inr (by simp)))).1
  have m1' : MapV Tryd.prog 9 ptrR w3 M pl.length f1 := m1.frame (hb3.block M hM)
  obtain ⟨w4, hr1, m1'', ht4⟩ := m1'.store (v := .pointer (some ⟨w2.heap.size, 0, none⟩)) strT map1 (by unfold maxLen; omega) (mx_le (s := cd.w) (by omega)) (ptrR_mk w2.heap.size)
  have g4 := ht4.grown
  have hk4 : ∀ k, k < w3.heap.size → k ≠ M → w4.heap[k]? = w3.heap[k]? := fun k hk hne => g4.block k hk fun e => hne (by injection e)
  have hz3 := hb3.size
  have hz4 := g4.size
  have hn3 := blk_lt hnew
  have hk : ∀ k, k < w2.heap.size → k ≠ M → w4.heap[k]? = w2.heap[k]? := fun k hk hne => (hk4 k (by omega) hne).trans (hb3.block k hk)
  have hFM := h.fm
  have hn1 : f1 cd.w.data.toList = none := by
    cases hx : f1 cd.w.data.toList with
    | none => rfl
    | some dd =>
      obtain ⟨p, hp, e, _⟩ := (v1 _ _).1 hx
      exact absurd (bs_ext e) (cdI_none.1 hno p.2 (snd_mem h.hl hp))
  rw [hn1] at m1''
  have hmods : Mods (fun k => k = M) w2 w4 := (Mods.of_below _ hb3).turned ht4 (Or.inl rfl)
  have hbk : ∀ a, B = some a → 0 < cd.scopes.length → a.block < w2.heap.size ∧ base ≤ a.block := fun a ha hn => ⟨ss_block hfr.1 ha hn, hfr.2 a ha hn⟩
  have hM1 := hbase _ h.s1.1
  have hF1 := hbase _ h.sF.1
  refine ⟨w4, hr1, ⟨fun k => I k ∨ (k < w2.heap.size ∧ base ≤ k), M, pl ++ [(w2.heap.size, cd)], (hk F hF hFM).trans h.hF, ⟨_, (by rw [List.length_append]; exact m1''), fun x dd => ?_⟩, by rw [List.map_append, h.hl]; rfl, fun p hp => ?_, fun p hp => ?_, fun k hk => ?_, ?_, ⟨Or.inl h.sF.1, fun e => ?_⟩, ⟨Or.inl h.s1.1, fun e => ?_⟩, fun k hk => ?_, hinv⟩, hmods, h.s1.1, hFM⟩
  · by_cases e : x = cd.w.data.toList
    · subst e
      simp only [if_true]
      constructor
      · rintro hh
        injection hh with hh
        exact ⟨(w2.heap.size, cd), List.mem_append.2 (Or.inr (by simp)), rfl, hh.symm⟩
      · rintro ⟨p, hp, e1, e2⟩
        rcases List.mem_append.1 hp with hp | hp
        · exact absurd (bs_ext e1) (cdI_none.1 hno p.2 (snd_mem h.hl hp))
        · simp at hp; subst hp; rw [e2]
    · simp only [if_neg e]
      rw [v1]
      constructor
      · rintro ⟨p, hp, e1, e2⟩
        exact ⟨p, List.mem_append.2 (Or.inl hp), e1, e2⟩
      · rintro ⟨p, hp, e1, e2⟩
        rcases List.mem_append.1 hp with hp | hp
        · exact ⟨p, hp, e1, e2⟩
        · simp at hp; subst hp; exact absurd e1.symm e
  · rcases List.mem_append.1 hp with hp | hp
    · exact (h.hb p hp).keep (fun k e => Or.inl e) (hk p.1 (h.lt _ (h.sb p hp).1) (h.apart hp).1.symm) (fun k hk2 => hk k (h.lt k (h.sI k hk2)) (fun e => h.s1.2 (by rw [← e]; exact hk2))) (by omega)
    · simp at hp; subst hp
      refine ⟨B, d, none, 0, (hk4 _ hn3 (by omega)).trans hnew, ⟨ss_keep (S := fun k => base ≤ k ∧ k < w2.heap.size) hfr.1 (fun a ha hn => ⟨(hbk a ha hn).2, (hbk a ha hn).1⟩) (fun k hk2 => hk k hk2.2 (by omega)) (by omega), fun a ha hn => Or.inr (hbk a ha hn)⟩, (by rw [hcg]; exact Ss.nil _ _ _), fun a ha => by cases ha⟩
  · rcases List.mem_append.1 hp with hp | hp
    · obtain ⟨s0, i0⟩ := h.sb p hp
      have := hbase _ s0
      exact ⟨Or.inl s0, fun e => by rcases e with e | e; exact i0 e; omega⟩
    · simp at hp; subst hp
      refine ⟨Or.inr ⟨by omega, by omega⟩, fun e => ?_⟩
      rcases e with e | e
      · have := h.lt _ (h.sI _ e); omega
      · simp only at e; omega
  · rcases hk with hk | hk
    · exact Or.inl (h.sI k hk)
    · exact Or.inr ⟨by omega, by omega⟩
  · rw [List.map_append, List.nodup_append]
    refine ⟨h.nd, by simp, fun a ha b hb e => ?_⟩
    obtain ⟨x, hx, rfl⟩ := List.mem_map.1 ha
    simp at hb
    have := h.lt _ (h.sb x hx).1
    omega
  · rcases e with e | e
    · exact h.sF.2 e
    · omega
  · rcases e with e | e
    · exact h.s1.2 e
    · omega
  · rcases hk with hk | hk
    · have := h.lt k hk; omega
    · exact hk.2
theorem no_dev {st : Fs} {d u c : Bs} {sc : List Bs} {now : Int} (h : stE st d u c sc now = 0) : cdI (puS st now).l d = none := by
  obtain ⟨_, _, _, h5, _⟩ := stE_zero h
  rw [List.countP_eq_zero] at h5
  rw [cdI_none]
  intro y hy
  obtain ⟨hy1, hy2⟩ := List.mem_filter.1 hy
  have := h5 y hy1
  unfold isSame at this
  rw [hy2] at this
  intro e
  simp [e] at this
theorem ss_mods {T : Nat → Prop} {w w' : World} {A : Option Addr} {n c : Nat} {l : List Bs} (h : Ss w A n c l) (hm : Mods T w w') (hT : ∀ a, A = some a → 0 < n → ¬ T a.block) : Ss w' A n c l := by
  refine ⟨h.1, h.2.1, fun hn => ?_⟩
  obtain ⟨b, off, e, hb, hc⟩ := h.2.2 hn
  refine ⟨b, off, e, Nat.lt_of_lt_of_le hb hm.size, fun i hi => ?_⟩
  rw [World.cell?_of_block (w := w) (hm.block b hb (hT _ e hn))]
  exact hc i hi
set_option maxRecDepth 100000 in
set_option maxHeartbeats 8000000 in
theorem sta_any {w : World} {S : Nat → Prop} {F : Nat} {st : Fs} (h : RepE w S F st) (d u c : Bs) (sc : List Bs) (A : Option Addr) (cc : Nat) (now : Int) (hd : d.size ≤ 100000) (hu : u.size ≤ 100000) (hc : c.size ≤ 100000) (hs : Ss w A sc.length cc sc) (hsh : Short sc) (hn : sc.length ≤ 1000) (hm : MX w) (hAS : ∀ a, A = some a → 0 < sc.length → ¬ S a.block) :
    Calls Tryd.prog 17 #[.pointer (some ⟨F, 0, none⟩), .string d, .string u, .string c, .slice A sc.length cc, .int .i64 now] w (NumIs w S F (sta st d u c sc now).2 (sta st d u c sc now).1) := by
  obtain ⟨w0, hw0⟩ : ∃ w0, w0 = (w.alloc (.cells #[.string d] 9)).alloc (.cells #[.int .i64 now] 3) := ⟨_, rfl⟩
  have HB0 := Lib.hid (show Below w.heap.size w w0 by rw [hw0]; go_grown)
  have HD0 := Lib.hid (show w0.heap[w.heap.size]? = some (.cells #[.string d] 9 (0, 0)) by rw [hw0, Below.heap_alloc _ _ _ (by simp)]; exact heap_alloc_new _ _)
  have HN0 := Lib.hid (show w0.heap[w.heap.size + 1]? = some (.cells #[.int .i64 now] 3 (0, 0)) by
    rw [hw0]
    have e : w.heap.size + 1 = (w.alloc (.cells #[.string d] 9)).heap.size := by simp
    rw [e]; exact heap_alloc_new _ _)
  have HE := Lib.hid h
  have HAS := Lib.hid hAS
  have HS := Lib.hid hs
  have HSH := Lib.hid hsh
  have HMX := Lib.hid hm
  have HLT := Lib.hid h.lt
  have HINV0 := Lib.hid h.inv
  obtain ⟨I, M, pl, h⟩ := h
  have H := Lib.hid h
  have H0 := Lib.hid (h.below HB0.out)
  clear h hs hsh hm
  have hmf : ∀ (fn : Fn) (first cap : Array Value) (w : World), (Instr.makeFunc fn first cap).run Tryd.prog w = .ok (.func fn first cap) w := fun _ _ _ _ => rfl
  have d7 := cell_block HD0.out 0
  simp only [List.getElem?_toArray, List.getElem?_cons_zero] at d7
  go_enter Tryd.func17, Tryd.ntmps17
  go_upto_region 1 with fail
  rw [← hw0]
  clear hw0
  go_wp2_with fail
  refine (ready_yes H0.out).mono ?_
  rintro e wx ⟨rfl, rfl⟩
  cases hwd : wrd d with
  | false =>
    have HW := Lib.hid hwd
    have HR := Lib.hid (sta_bad (st := st) (d := d) (u := u) (c := c) (sc := sc) (now := now) (k := 5) (by unfold stE; rw [if_pos (Or.inl hwd)]) (by decide))
    clear hwd
    go_wp2_with fail
    refine (word_is d w0 hd HW.out).mono ?_
    rintro e wx ⟨rfl, rfl⟩
    go_wp2
    go_ret
    rw [HR.out]
    exact num_same HE.out HB0.out
  | true =>
    have HW := Lib.hid hwd
    clear hwd
    go_wp2_with fail
    refine (word_is d w0 hd HW.out).mono ?_
    rintro e wx ⟨rfl, rfl⟩
    cases hwc : wrd c with
    | false =>
      have HWC := Lib.hid hwc
      have HR := Lib.hid (sta_bad (st := st) (d := d) (u := u) (c := c) (sc := sc) (now := now) (k := 5) (by unfold stE; rw [if_pos (Or.inr hwc)]) (by decide))
      clear hwc
      go_wp2_with fail
      refine (word_is c w0 hc HWC.out).mono ?_
      rintro e wx ⟨rfl, rfl⟩
      go_wp2
      go_ret
      rw [HR.out]
      exact num_same HE.out HB0.out
    | true =>
      have HWC := Lib.hid hwc
      clear hwc
      go_wp2_with fail
      refine (word_is c w0 hc HWC.out).mono ?_
      rintro e wx ⟨rfl, rfl⟩
      obtain ⟨code, hcode⟩ : ∃ x, (cuC u).1 = x := ⟨_, rfl⟩
      obtain ⟨er, her⟩ : ∃ x, (cuC u).2 = x := ⟨_, rfl⟩
      have HCO := Lib.hid hcode
      have HER := Lib.hid her
      have hcl := clean_any u w0 hu (HMX.out.below HB0.out)
      rw [hcode, her] at hcl
      have HCL := Lib.hid hcl
      clear hcl hcode her
      have HG1 := Lib.hid (show stE st d u c sc now = if er ≠ 0 then er else if chkS sc ≠ 0 then chkS sc else if 0 < st.l.countP (isSame now d code) then 7 else if 256 ≤ st.l.countP (opn now) then 3 else 0 by unfold stE; rw [if_neg (by rw [HW.out, HWC.out]; simp), HER.out, HCO.out])
      go_wp2_with fail
      refine HCL.out.mono ?_
      rintro e w1 ⟨rfl, hb⟩
      have HB1 := Lib.hid (HB0.out.trans (hb.mono HB0.out.size))
      have HD1 := Lib.hid (blk_below hb HD0.out)
      have HN1 := Lib.hid (blk_below hb HN0.out)
      clear hb d7
      go_upto_region 6 with fail
      obtain ⟨w2, hw2⟩ : ∃ w2, w2 = w1.alloc (.cells #[.string code] 9) := ⟨_, rfl⟩
      rw [← hw2]
      have hb : Below w1.heap.size w1 w2 := by rw [hw2]; go_grown
      obtain ⟨q13, hq13⟩ : ∃ q, q = w1.heap.size := ⟨_, rfl⟩
      rw [← hq13]
      have HC2 := Lib.hid (show w2.heap[q13]? = some (.cells #[.string code] 9 (0, 0)) by rw [hw2, hq13]; exact heap_alloc_new _ _)
      have HQ13 := Lib.hid (show w.heap.size ≤ q13 by rw [hq13]; exact HB1.out.size)
      have HB2 := Lib.hid (HB1.out.trans (hb.mono HB1.out.size))
      have HD2 := Lib.hid (blk_below hb HD1.out)
      have HN2 := Lib.hid (blk_below hb HN1.out)
      clear hw2 hb hq13
      by_cases he : er = 0
      · have HG2 := Lib.hid (show stE st d u c sc now = if chkS sc ≠ 0 then chkS sc else if 0 < st.l.countP (isSame now d code) then 7 else if 256 ≤ st.l.countP (opn now) then 3 else 0 by rw [HG1.out, if_neg (by simpa using he)])
        have heb : (er == 0) = true := by rw [he]; rfl
        subst he
        obtain ⟨ck, hck⟩ : ∃ x, chkS sc = x := ⟨_, rfl⟩
        have HCK := Lib.hid hck
        rw [hck] at HG2
        clear hck
        go_wp2_with fail
        refine (chk_is A sc.length cc sc w2 (HS.out.below HB2.out) HSH.out (by omega) (HMX.out.below HB2.out) HCK.out).mono ?_
        rintro e w3 ⟨rfl, hb⟩
        have HB3 := Lib.hid (HB2.out.trans (hb.mono HB2.out.size))
        have HD3 := Lib.hid (blk_below hb HD2.out)
        have HN3 := Lib.hid (blk_below hb HN2.out)
        have HC3 := Lib.hid (blk_below hb HC2.out)
        clear hb
        by_cases hk0 : ck = 0
        · have HG3 := Lib.hid (show stE st d u c sc now = if 0 < st.l.countP (isSame now d code) then 7 else if 256 ≤ st.l.countP (opn now) then 3 else 0 by rw [HG2.out, if_neg (by simpa using hk0)])
          subst hk0
          go_upto_region 12 with fail
          obtain ⟨w4, hw4⟩ : ∃ w4, w4 = w3.alloc (.cells #[.func (.func 49) #[] #[.pointer (some ⟨w.heap.size + 1, 0, none⟩)]] 79) := ⟨_, rfl⟩
          rw [← hw4]
          have hb : Below w3.heap.size w3 w4 := by rw [hw4]; go_grown
          obtain ⟨q16, hq16⟩ : ∃ q, q = w3.heap.size := ⟨_, rfl⟩
          rw [← hq16]
          have HO4 := Lib.hid (show w4.heap[q16]? = some (.cells #[.func (.func 49) #[] #[.pointer (some ⟨w.heap.size + 1, 0, none⟩)]] 79 (0, 0)) by rw [hw4, hq16]; exact heap_alloc_new _ _)
          have HB4 := Lib.hid (HB3.out.trans (hb.mono HB3.out.size))
          have HD4 := Lib.hid (blk_below hb HD3.out)
          have HN4 := Lib.hid (blk_below hb HN3.out)
          have HC4 := Lib.hid (blk_below hb HC3.out)
          have H4 := Lib.hid (H.out.below HB4.out)
          clear hw4 hb hq16
          have HCS := Lib.hid (fun (r : Nat × Fw) (wz : World) (hr : r ∈ pl) (hb : Below w4.heap.size w4 wz) => same_any (w := wz) (b := r.1) (pn := w.heap.size + 1) (po := q16) (pd := w.heap.size) (pc := q13) (x := r.2) (now := now) r.2.w d code (cell_block (blk_below hb HO4.out) 0) (cell_block (blk_below hb HD4.out) 0) (cell_block (blk_below hb HC4.out) 0) (by obtain ⟨A, c, A2, c2, hblk, _⟩ := (H4.out.below hb).hb r hr; exact cell_block hblk 0) (by obtain ⟨A, c, A2, c2, hblk, _⟩ := (H4.out.below hb).hb r hr; exact cell_block hblk 3) (cell_block (blk_below hb HN4.out) 0) rfl rfl)
          obtain ⟨n1, hn1⟩ : ∃ x, st.l.countP (isSame now d code) = x := ⟨_, rfl⟩
          have HCN := Lib.hid hn1
          rw [hn1] at HG3
          have hcnt := count3_any H4.out q16 w.heap.size q13 (isSame now d code) HCS.out
          rw [hn1] at hcnt
          have HCT := Lib.hid hcnt
          have hn1b : n1 ≤ 256 := by rw [← hn1]; exact Nat.le_trans List.countP_le_length HINV0.out.len
          clear hn1 hcnt
          go_wp2_with fail
          refine HCT.out.mono ?_
          rintro e w5 ⟨rfl, hb⟩
          have HB5 := Lib.hid (HB4.out.trans (hb.mono HB4.out.size))
          have HD5 := Lib.hid (blk_below hb HD4.out)
          have HN5 := Lib.hid (blk_below hb HN4.out)
          have HC5 := Lib.hid (blk_below hb HC4.out)
          have HO5 := Lib.hid (blk_below hb HO4.out)
          have H5 := Lib.hid (H.out.below HB5.out)
          clear hb
          by_cases hs0 : 0 < n1
          · have hs0' : (0 : Int) < (n1 : Int) := by omega
            have HR := Lib.hid (sta_bad (st := st) (d := d) (u := u) (c := c) (sc := sc) (now := now) (k := 7) (by rw [HG3.out, if_pos hs0]) (by decide))
            clear hs0
            go_wp2
            go_ret
            rw [HR.out]
            exact num_same HE.out HB5.out
          · have hs0' : ¬ (0 : Int) < (n1 : Int) := by omega
            have HG4 := Lib.hid (show stE st d u c sc now = if 256 ≤ st.l.countP (opn now) then 3 else 0 by rw [HG3.out, if_neg hs0])
            clear hs0
            have HCO2 := Lib.hid (fun (r : Nat × Fw) (wz : World) (hr : r ∈ pl) (hb : Below w5.heap.size w5 wz) => open_any (w := wz) (b := r.1) (pn := w.heap.size + 1) (x := r.2) (now := now) r.2.w (by obtain ⟨A, c, A2, c2, hblk, _⟩ := (H5.out.below hb).hb r hr; exact cell_block hblk 3) (cell_block (blk_below hb HN5.out) 0) rfl)
            obtain ⟨n2, hn2⟩ : ∃ x, st.l.countP (opn now) = x := ⟨_, rfl⟩
            rw [hn2] at HG4
            have hcnt := count1_any H5.out (w.heap.size + 1) (opn now) HCO2.out
            rw [hn2] at hcnt
            have HCT2 := Lib.hid hcnt
            have hn2b : n2 ≤ 256 := by rw [← hn2]; exact Nat.le_trans List.countP_le_length HINV0.out.len
            clear hn2 hcnt
            have o5 := cell_block HO5.out 0
            simp only [List.getElem?_toArray, List.getElem?_cons_zero] at o5
            go_wp2_with fail
            refine HCT2.out.mono ?_
            rintro e w5b ⟨rfl, hb⟩
            have HB5b := Lib.hid (HB5.out.trans (hb.mono HB5.out.size))
            have HD5b := Lib.hid (blk_below hb HD5.out)
            have HN5b := Lib.hid (blk_below hb HN5.out)
            have HC5b := Lib.hid (blk_below hb HC5.out)
            clear hb o5
            by_cases hl : 256 ≤ n2
            · have hl' : (256 : Int) ≤ (n2 : Int) := by omega
              have HR := Lib.hid (sta_bad (st := st) (d := d) (u := u) (c := c) (sc := sc) (now := now) (k := 3) (by rw [HG4.out, if_pos hl]) (by decide))
              clear hl
              go_wp2
              go_ret
              rw [HR.out]
              exact num_same HE.out HB5b.out
            · have hl' : ¬ (256 : Int) ≤ (n2 : Int) := by omega
              have HZ := Lib.hid (show stE st d u c sc now = 0 by rw [HG4.out, if_neg hl])
              clear hl
              have HR := Lib.hid (show sta st d u c sc now = ({ puS st now with l := (puS st now).l ++ [newF st d code c sc now] }, 0) by unfold sta; rw [if_pos HZ.out, HCO.out])
              have HINV := Lib.hid (show Inv { puS st now with l := (puS st now).l ++ [newF st d code c sc now] } by rw [← HCO.out]; exact inv_sta HINV0.out HSH.out HZ.out)
              have HNO := Lib.hid (show cdI (puS st now).l (newF st d code c sc now).w = none from no_dev HZ.out)
              have n5 := cell_block HN5b.out 0
              simp only [List.getElem?_toArray, List.getElem?_cons_zero] at n5
              go_wp2_with fail
              refine (pur_any (HE.out.below HB5b.out) now).mono ?_
              rintro e w6 ⟨rfl, hre, hm6⟩
              have HM6 := Lib.hid hm6
              have HMW := Lib.hid (mods_pre HB5b.out hm6)
              obtain ⟨I2, M2, pl2, h6⟩ := hre
              have H6 := Lib.hid h6
              have NS : ∀ k, w.heap.size ≤ k → ¬ S k := fun k hk e => by have := HLT.out k e; omega
              have NEM : ∀ k, w.heap.size ≤ k → S M2 → k ≠ M2 := fun k hk e e2 => by have := HLT.out _ e; omega
              have HLT6 := Lib.hid (show ∀ k, S k → k < w6.drew.heap.size from fun k e => Nat.lt_of_lt_of_le (HLT.out k e) (show w.heap.size ≤ w6.heap.size from HMW.out.size))
              have HSS6 := Lib.hid (show Ss w6 A sc.length cc sc from ss_mods (HS.out.below HB5b.out) hm6 HAS.out)
              have d7 : w6.cell? ⟨w.heap.size, 0, none⟩ = some (.string d) := (World.cell?_of_block (hm6.block _ (blk_lt HD5b.out) (NS _ (Nat.le_refl _)))).trans (cell_block HD5b.out 0)
              have d11 : w6.cell? ⟨w.heap.size + 1, 0, none⟩ = some (.int .i64 now) := (World.cell?_of_block (hm6.block (w.heap.size + 1) (blk_lt HN5b.out) (NS (w.heap.size + 1) (Nat.le_succ _)))).trans (cell_block HN5b.out 0)
              have d13 : w6.cell? ⟨q13, 0, none⟩ = some (.string code) := (World.cell?_of_block (hm6.block _ (blk_lt HC5b.out) (NS _ HQ13.out))).trans (cell_block HC5b.out 0)
              have c0 : w6.cell? ⟨F, 0, none⟩ = some (.int .i64 st.life) := h6.c0
              have c1 : w6.cell? ⟨F, 1, none⟩ = some (.int .i64 st.iv) := h6.c1
              have c2 := h6.c2
              clear hm6 h6 n5
              go_wp2_with fail
              refine wp_region_held_drew (S := (fun w' => w'.cell? ⟨F, 0, none⟩ = some (.int .i64 st.life) ∧ w'.cell? ⟨F, 1, none⟩ = some (.int .i64 st.iv) ∧ w'.cell? ⟨F, 2, none⟩ = some (.map (some M2)) ∧ w'.cell? ⟨w.heap.size, 0, none⟩ = some (.string d) ∧ w'.cell? ⟨w.heap.size + 1, 0, none⟩ = some (.int .i64 now) ∧ w'.cell? ⟨q13, 0, none⟩ = some (.string code))) (by kernel_rfl) ?_ (fun hHeld => ?_)
              focus ((try dsimp only); (first | exact ⟨c0, c1, c2, d7, d11, d13⟩ | exact ⟨cell_below HV1.out c0, cell_below HV1.out c1, cell_below HV1.out c2, cell_below HV1.out d7, cell_below HV1.out d11, cell_below HV1.out d13⟩ | exact ⟨cell_below (HV1.out.alloc HV1.out.size _) c0, cell_below (HV1.out.alloc HV1.out.size _) c1, cell_below (HV1.out.alloc HV1.out.size _) c2, cell_below (HV1.out.alloc HV1.out.size _) d7, cell_below (HV1.out.alloc HV1.out.size _) d11, cell_below (HV1.out.alloc HV1.out.size _) d13⟩ | exact HV9.out); done)
              refine wpAnyH_take (i := 0) (oi := ⟨_, _, _, _, _, _⟩) (v := ?_) rfl (by kernel_rfl) (by kernel_rfl) (by kernel_rfl) (fun _ _ _ h => h) (Or.inl ⟨by rfl, ?_⟩) (by assumption) ?_; rotate_left; (focus (intro w hSw; (try dsimp only at hSw); go_simp; (try with_reducible rfl); done)); simp only [Act.put, List.setIfInBounds_toArray, List.set_cons_zero, List.set_cons_succ]
              refine wpAnyH_take (i := 1) (oi := ⟨_, _, _, _, _, _⟩) (v := ?_) rfl (by kernel_rfl) (by kernel_rfl) (by kernel_rfl) (fun _ _ _ h => h) (Or.inl ⟨by rfl, ?_⟩) (by assumption) ?_; rotate_left; (focus (intro w hSw; (try dsimp only at hSw); go_simp; (try with_reducible rfl); done)); simp only [Act.put, List.setIfInBounds_toArray, List.set_cons_zero, List.set_cons_succ]
              refine wpAnyH_take (i := 2) (oi := ⟨_, _, _, _, _, _⟩) (v := ?_) rfl (by kernel_rfl) (by kernel_rfl) (by kernel_rfl) (fun _ _ _ h => h) (Or.inl ⟨by rfl, ?_⟩) (by assumption) ?_; rotate_left; (focus (intro w hSw; (try dsimp only at hSw); go_simp; (try with_reducible rfl); done)); simp only [Act.put, List.setIfInBounds_toArray, List.set_cons_zero, List.set_cons_succ]
              refine wpAnyH_take (i := 3) (oi := ⟨_, _, _, _, _, _⟩) (v := ?_) rfl (by kernel_rfl) (by kernel_rfl) (by kernel_rfl) (fun _ _ _ h => h) (Or.inl ⟨by rfl, ?_⟩) (by assumption) ?_; rotate_left; (focus (intro w hSw; (try dsimp only at hSw); go_simp; (try with_reducible rfl); done)); simp only [Act.put, List.setIfInBounds_toArray, List.set_cons_zero, List.set_cons_succ]
              refine wpAnyH_take (i := 4) (oi := ⟨_, _, _, _, _, _⟩) (v := ?_) rfl (by kernel_rfl) (by kernel_rfl) (by kernel_rfl) (fun _ _ _ h => h) (Or.inl ⟨by rfl, ?_⟩) (by assumption) ?_; rotate_left; (focus (intro w hSw; (try dsimp only at hSw); go_simp; (try with_reducible rfl); done)); simp only [Act.put, List.setIfInBounds_toArray, List.set_cons_zero, List.set_cons_succ]
              refine wpAnyH_take (i := 5) (oi := ⟨_, _, _, _, _, _⟩) (v := ?_) rfl (by kernel_rfl) (by kernel_rfl) (by kernel_rfl) (fun _ _ _ h => h) (Or.inl ⟨by rfl, ?_⟩) (by assumption) ?_; rotate_left; (focus (intro w hSw; (try dsimp only at hSw); go_simp; (try with_reducible rfl); done)); simp only [Act.put, List.setIfInBounds_toArray, List.set_cons_zero, List.set_cons_succ]
              refine wpAnyH_take (i := 6) (oi := ⟨_, _, _, _, _, _⟩) (v := ?_) rfl (by kernel_rfl) (by kernel_rfl) (by kernel_rfl) (fun _ _ _ h => h) (Or.inl ⟨by rfl, ?_⟩) (by assumption) ?_; rotate_left; (focus (intro w hSw; (try dsimp only at hSw); go_simp; (try with_reducible rfl); done)); simp only [Act.put, List.setIfInBounds_toArray, List.set_cons_zero, List.set_cons_succ]
              refine wpAnyH_take (i := 7) (oi := ⟨_, _, _, _, _, _⟩) (v := ?_) rfl (by kernel_rfl) (by kernel_rfl) (by kernel_rfl) (fun _ _ _ h => h) (Or.inl ⟨by rfl, ?_⟩) (by assumption) ?_; rotate_left; (focus (intro w hSw; (try dsimp only at hSw); go_simp; (try with_reducible rfl); done)); simp only [Act.put, List.setIfInBounds_toArray, List.set_cons_zero, List.set_cons_succ]
              refine wpAnyH_take (i := 9) (oi := ⟨_, _, _, _, _, _⟩) (v := ?_) rfl (by kernel_rfl) (by kernel_rfl) (by kernel_rfl) (fun _ _ _ h => h) (Or.inl ⟨by rfl, ?_⟩) (by assumption) ?_; rotate_left; (focus (intro w hSw; (try dsimp only at hSw); go_simp; (try with_reducible rfl); done)); simp only [Act.put, List.setIfInBounds_toArray, List.set_cons_zero, List.set_cons_succ]
              refine wpAnyH_take (i := 10) (oi := ⟨_, _, _, _, _, _⟩) (v := ?_) rfl (by kernel_rfl) (by kernel_rfl) (by kernel_rfl) (fun _ _ _ h => h) (Or.inl ⟨by rfl, ?_⟩) (by assumption) ?_; rotate_left; (focus (intro w hSw; (try dsimp only at hSw); go_simp; (try with_reducible rfl); done)); simp only [Act.put, List.setIfInBounds_toArray, List.set_cons_zero, List.set_cons_succ]
              refine wpAnyH_take (i := 11) (oi := ⟨_, _, _, _, _, _⟩) (v := ?_) rfl (by kernel_rfl) (by kernel_rfl) (by kernel_rfl) (fun _ _ _ h => h) (Or.inl ⟨by rfl, ?_⟩) (by assumption) ?_; rotate_left; (focus (intro w hSw; (try dsimp only at hSw); go_simp; (try with_reducible rfl); done)); simp only [Act.put, List.setIfInBounds_toArray, List.set_cons_zero, List.set_cons_succ]
              refine wpAnyH_take (i := 12) (oi := ⟨_, _, _, _, _, _⟩) (v := ?_) rfl (by kernel_rfl) (by kernel_rfl) (by kernel_rfl) (fun _ _ _ h => h) (Or.inl ⟨by rfl, ?_⟩) (by assumption) ?_; rotate_left; (focus (intro w hSw; (try dsimp only at hSw); go_simp; (try with_reducible rfl); done)); simp only [Act.put, List.setIfInBounds_toArray, List.set_cons_zero, List.set_cons_succ]
              refine wpAnyH_take (i := 13) (oi := ⟨_, _, _, _, _, _⟩) (v := ?_) rfl (by kernel_rfl) (by kernel_rfl) (by kernel_rfl) (fun _ _ _ h => h) (Or.inl ⟨by rfl, ?_⟩) (by assumption) ?_; rotate_left; (focus (intro w hSw; (try dsimp only at hSw); go_simp; (try with_reducible rfl); done)); simp only [Act.put, List.setIfInBounds_toArray, List.set_cons_zero, List.set_cons_succ]
              refine wpAnyH_take (i := 15) (oi := ⟨_, _, _, _, _, _⟩) (v := ?_) rfl (by kernel_rfl) (by kernel_rfl) (by kernel_rfl) (fun _ _ _ h => h) (Or.inl ⟨by rfl, ?_⟩) (by assumption) ?_; rotate_left; (focus (intro w hSw; (try dsimp only at hSw); go_simp; (try with_reducible rfl); done)); simp only [Act.put, List.setIfInBounds_toArray, List.set_cons_zero, List.set_cons_succ]
              refine wpAnyH_take (i := 16) (oi := ⟨_, _, _, _, _, _⟩) (v := ?_) rfl (by kernel_rfl) (by kernel_rfl) (by kernel_rfl) (fun _ _ _ h => h) (Or.inl ⟨by rfl, ?_⟩) (by assumption) ?_; rotate_left; (focus (intro w hSw; (try dsimp only at hSw); go_simp; (try with_reducible rfl); done)); simp only [Act.put, List.setIfInBounds_toArray, List.set_cons_zero, List.set_cons_succ]
              refine wpAnyH_take (i := 17) (oi := ⟨_, _, _, _, _, _⟩) (v := ?_) rfl (by kernel_rfl) (by kernel_rfl) (by kernel_rfl) (fun _ _ _ h => h) (Or.inl ⟨by rfl, ?_⟩) (by assumption) ?_; rotate_left; (focus (intro w hSw; (try dsimp only at hSw); go_simp; (try with_reducible rfl); done)); simp only [Act.put, List.setIfInBounds_toArray, List.set_cons_zero, List.set_cons_succ]
              refine wpAnyH_take (i := 18) (oi := ⟨_, _, _, _, _, _⟩) (v := ?_) rfl (by kernel_rfl) (by kernel_rfl) (by kernel_rfl) (fun _ _ _ h => h) (Or.inl ⟨by rfl, ?_⟩) (by assumption) ?_; rotate_left; (focus (intro w hSw; (try dsimp only at hSw); go_simp; (try with_reducible rfl); done)); simp only [Act.put, List.setIfInBounds_toArray, List.set_cons_zero, List.set_cons_succ]
              refine wpAnyH_ready (rs := [8]) (by kernel_rfl) (by simp) ?_
              refine AllReadyH.cons (o := ⟨_, _, _, _, _, _⟩) rfl (fun K hK => ?_) AllReadyH.nil
              go_simp
              go_wp2_with fail
              refine (clone_any A sc.length cc sc _ (HSS6.out.below ((Below.refl _ _).drew)) (by omega)).mono ?_
              rintro e v1 ⟨B, dd, rfl, hown, hv⟩
              have HFR := Lib.hid (fresh_of hown)
              have HV1 := Lib.hid (show Below w6.heap.size w6 v1 from ((Below.refl _ _).drew).trans hv)
              clear hown hv
              obtain ⟨w9, hr9, hre9, hm9, hSM, hFM⟩ := rep_app (w3 := v1.alloc (.cells #[.string code, .string c, .slice B sc.length dd, .int .i64 (addC now st.life), .int .i64 st.iv, .int .i64 0, .string ⟨#[]⟩, .string ⟨#[]⟩, .string ⟨#[]⟩, .string ⟨#[]⟩, .string ⟨#[]⟩, .string ⟨#[]⟩, .string ⟨#[]⟩, .int .i64 0, .slice none 0 0, .int .i64 0, .int .i64 0, .bool false, .int .i64 0] 81)) (cd := newF st d code c sc now) (H6.out.below HV1.out) HINV.out HNO.out HFR.out HLT6.out HV1.out.size (by go_grown) rfl (heap_alloc_new v1 _)
              have hr9' : (Instr.mapUpdate 64 (.map (some M2)) (.string d) (.pointer (some ⟨v1.heap.size, 0, none⟩))).run Tryd.prog (v1.alloc (.cells #[.string code, .string c, .slice B sc.length dd, .int .i64 (addC now st.life), .int .i64 st.iv, .int .i64 0, .string ⟨#[]⟩, .string ⟨#[]⟩, .string ⟨#[]⟩, .string ⟨#[]⟩, .string ⟨#[]⟩, .string ⟨#[]⟩, .string ⟨#[]⟩, .int .i64 0, .slice none 0 0, .int .i64 0, .int .i64 0, .bool false, .int .i64 0] 81)) = .ok () w9 := hr9
              have HRE9 := Lib.hid hre9
              have HM9 := Lib.hid hm9
              have HV9 := Lib.hid (show w9.cell? ⟨F, 0, none⟩ = some (.int .i64 st.life) ∧ w9.cell? ⟨F, 1, none⟩ = some (.int .i64 st.iv) ∧ w9.cell? ⟨F, 2, none⟩ = some (.map (some M2)) ∧ w9.cell? ⟨w.heap.size, 0, none⟩ = some (.string d) ∧ w9.cell? ⟨w.heap.size + 1, 0, none⟩ = some (.int .i64 now) ∧ w9.cell? ⟨q13, 0, none⟩ = some (.string code) from (let f := fun (a : Addr) (v : Value) (h : w6.cell? a = some v) (hne : a.block ≠ M2) => (World.cell?_of_block (w := v1) (hm9.block a.block (World.block_lt_of_cell? v1 _ (cell_below HV1.out h)) hne)).trans (cell_below HV1.out h); ⟨f _ _ c0 hFM, f _ _ c1 hFM, f _ _ c2 hFM, f _ _ d7 (NEM w.heap.size (Nat.le_refl _) hSM), f _ _ d11 (NEM (w.heap.size + 1) (Nat.le_succ _) hSM), f _ _ d13 (NEM q13 HQ13.out hSM)⟩))
              clear hr9 hre9 hm9
              (try go_wp2_with fail)
              refine hK.out _ _ ?_ (fun hHeld => ?_)
              focus ((try dsimp only); (first | exact ⟨c0, c1, c2, d7, d11, d13⟩ | exact ⟨cell_below HV1.out c0, cell_below HV1.out c1, cell_below HV1.out c2, cell_below HV1.out d7, cell_below HV1.out d11, cell_below HV1.out d13⟩ | exact ⟨cell_below (HV1.out.alloc HV1.out.size _) c0, cell_below (HV1.out.alloc HV1.out.size _) c1, cell_below (HV1.out.alloc HV1.out.size _) c2, cell_below (HV1.out.alloc HV1.out.size _) d7, cell_below (HV1.out.alloc HV1.out.size _) d11, cell_below (HV1.out.alloc HV1.out.size _) d13⟩ | exact HV9.out); done)
              clear hK K
              (try simp only [Act.put, List.setIfInBounds_toArray, List.set_cons_zero, List.set_cons_succ])
              refine wpAnyH_ready (rs := [14]) (by kernel_rfl) (by simp) ?_
              refine AllReadyH.cons (o := ⟨_, _, _, _, _, _⟩) rfl (fun K hK => ?_) AllReadyH.nil
              go_simp
              go_wp2_with fail
              refine (add_any now st.life _).mono ?_
              rintro e wn ⟨rfl, rfl⟩
              (try go_wp2_with fail)
              refine hK.out _ _ ?_ (fun hHeld => ?_)
              focus ((try dsimp only); (first | exact ⟨c0, c1, c2, d7, d11, d13⟩ | exact ⟨cell_below HV1.out c0, cell_below HV1.out c1, cell_below HV1.out c2, cell_below HV1.out d7, cell_below HV1.out d11, cell_below HV1.out d13⟩ | exact ⟨cell_below (HV1.out.alloc HV1.out.size _) c0, cell_below (HV1.out.alloc HV1.out.size _) c1, cell_below (HV1.out.alloc HV1.out.size _) c2, cell_below (HV1.out.alloc HV1.out.size _) d7, cell_below (HV1.out.alloc HV1.out.size _) d11, cell_below (HV1.out.alloc HV1.out.size _) d13⟩ | exact HV9.out); done)
              clear hK K
              (try simp only [Act.put, List.setIfInBounds_toArray, List.set_cons_zero, List.set_cons_succ])
              refine wpAnyH_take (i := 19) (oi := ⟨_, _, _, _, _, _⟩) (v := ?_) rfl (by kernel_rfl) (by kernel_rfl) (by kernel_rfl) (fun _ _ _ h => h) (Or.inl ⟨by rfl, ?_⟩) (by assumption) ?_; rotate_left; (focus (intro w hSw; (try dsimp only at hSw); go_simp; (try with_reducible rfl); done)); simp only [Act.put, List.setIfInBounds_toArray, List.set_cons_zero, List.set_cons_succ]
              refine wpAnyH_ready (rs := [20]) (by kernel_rfl) (by simp) ?_
              refine AllReadyH.cons (o := ⟨_, _, _, _, _, _⟩) rfl (fun K hK => ?_) AllReadyH.nil
              go_simp
              (try go_wp2_with fail)
              refine hK.out _ _ ?_ (fun hHeld => ?_)
              focus ((try dsimp only); (first | exact ⟨c0, c1, c2, d7, d11, d13⟩ | exact ⟨cell_below HV1.out c0, cell_below HV1.out c1, cell_below HV1.out c2, cell_below HV1.out d7, cell_below HV1.out d11, cell_below HV1.out d13⟩ | exact ⟨cell_below (HV1.out.alloc HV1.out.size _) c0, cell_below (HV1.out.alloc HV1.out.size _) c1, cell_below (HV1.out.alloc HV1.out.size _) c2, cell_below (HV1.out.alloc HV1.out.size _) d7, cell_below (HV1.out.alloc HV1.out.size _) d11, cell_below (HV1.out.alloc HV1.out.size _) d13⟩ | exact HV9.out); done)
              clear hK K
              (try simp only [Act.put, List.setIfInBounds_toArray, List.set_cons_zero, List.set_cons_succ])
              refine wpAnyH_ready (rs := [21]) (by kernel_rfl) (by simp) ?_
              refine AllReadyH.cons (o := ⟨_, _, _, _, _, _⟩) rfl (fun K hK => ?_) AllReadyH.nil
              go_simp
              (try go_wp2_with fail)
              refine hK.out _ _ ?_ (fun hHeld => ?_)
              focus ((try dsimp only); (first | exact ⟨c0, c1, c2, d7, d11, d13⟩ | exact ⟨cell_below HV1.out c0, cell_below HV1.out c1, cell_below HV1.out c2, cell_below HV1.out d7, cell_below HV1.out d11, cell_below HV1.out d13⟩ | exact ⟨cell_below (HV1.out.alloc HV1.out.size _) c0, cell_below (HV1.out.alloc HV1.out.size _) c1, cell_below (HV1.out.alloc HV1.out.size _) c2, cell_below (HV1.out.alloc HV1.out.size _) d7, cell_below (HV1.out.alloc HV1.out.size _) d11, cell_below (HV1.out.alloc HV1.out.size _) d13⟩ | exact HV9.out); done)
              clear hK K
              (try simp only [Act.put, List.setIfInBounds_toArray, List.set_cons_zero, List.set_cons_succ])
              refine wpAnyH_done (by kernel_rfl) ?_ _
              go_wp2
              go_ret
              rw [HR.out]
              refine ⟨rfl, HRE9.out.keep (fun k e => ?_) (fun _ _ => rfl) (Nat.le_refl _) (fun k e => ?_), ?_⟩
              · rcases e with e | e
                · exact Or.inl e
                · exact Or.inr ⟨Nat.le_trans HMW.out.size e.1, e.2⟩
              · rcases e with e | e
                · exact HRE9.out.lt k (Or.inl e)
                · exact e.2
              · have hx := HMW.out.below HV1.out
                exact ⟨HM9.out.os.trans hx.os, HM9.out.tape.trans hx.tape, HM9.out.output.trans hx.output, Nat.le_trans hx.size HM9.out.size, fun k hk hn => (HM9.out.block k (Nat.lt_of_lt_of_le hk hx.size) (fun e => hn (by rw [e]; exact hSM))).trans (hx.block k hk hn)⟩
        · have hkb : (ck == 0) = false := beq_eq_false_iff_ne.2 hk0
          have HR := Lib.hid (sta_bad (st := st) (d := d) (u := u) (c := c) (sc := sc) (now := now) (k := ck) (by rw [HG2.out, if_pos hk0]) hk0)
          go_wp2
          go_ret
          rw [HR.out]
          exact num_same HE.out HB3.out
      · have heb : (er == 0) = false := beq_eq_false_iff_ne.2 he
        have HR := Lib.hid (sta_bad (st := st) (d := d) (u := u) (c := c) (sc := sc) (now := now) (k := er) (by rw [HG1.out, if_pos he]) he)
        go_wp2
        go_ret
        rw [HR.out]
        exact num_same HE.out HB2.out
end Go.Proofs.YtapooonlbjgbgaaDoor.Dv
