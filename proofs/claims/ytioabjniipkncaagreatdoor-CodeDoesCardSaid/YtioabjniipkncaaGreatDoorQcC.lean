/-
  The reference: one code changed in place; drop, Drop, DropUser.
-/
import Derived.Test.YtioabjniipkncaaGreatDoorQcB
namespace Go.Proofs.YtioabjniipkncaaGreatDoor.Rc
open Go.RowKit Go.Proofs.YtioabjniipkncaaGreatDoor.Fo Go.Proofs.YtioabjniipkncaaGreatDoor.Rf Go.Maps

/-- One code is changed. -/
theorem ref_put {w w' : World} {S S' I I' : Nat → Prop} {G g : Nat} {st : Ct} {v : Value} {es : List CdE} (h : RefP w S I G st v es) {i : Nat} {e' : CdE} (hg : v.ownBlock = some g) (hown : OwnR w' v (es.set i e')) (hI : ∀ k, I k → I' k) (hk : ∀ k, S k → k ≠ g → w'.heap[k]? = w.heap[k]?) (hz : w.heap.size ≤ w'.heap.size) (hS : ∀ k, S k → S' k) (hIS : ∀ k, I' k → S' k) (hIn : ¬ I' G ∧ ¬ I' g) (hlt : ∀ k, S' k → k < w'.heap.size)
    (htk : Ss w' e'.2.1 e'.1.g.scopes.length e'.2.2 e'.1.g.scopes ∧ ∀ a, e'.2.1 = some a → 0 < e'.1.g.scopes.length → I' a.block) (hinv : Inv { st with l := st.l.set i e'.1 }) :
    RefP w' S' I' G { st with l := st.l.set i e'.1 } v (es.set i e') := by
  have hgI := (h.sv g hg).2.1
  have hkI : ∀ k, I k → w'.heap[k]? = w.heap[k]? := fun k hk2 => hk k (h.sI k hk2) (fun e2 => hgI (by rw [← e2]; exact hk2))
  refine ⟨(hk G h.sG.1 (fun e2 => (h.sv g hg).2.2 e2.symm)).trans h.hG, hown, by rw [List.map_set, h.hl], fun x hx => ?_, hIS, ⟨hS _ h.sG.1, hIn.1⟩, fun g' hg' => ?_, hlt, hinv⟩
  · rcases mem_set hx with rfl | ⟨j, _, hj⟩
    · exact htk
    · have := h.tk x (List.mem_of_getElem? hj)
      exact ⟨ss_keep this.1 this.2 hkI hz, fun a ha hn => hI _ (this.2 a ha hn)⟩
  · rw [hg] at hg'
    injection hg' with hg'
    subst hg'
    exact ⟨hS _ (h.sv g hg).1, hIn.2, (h.sv g hg).2.2⟩
/-- One cell of a code is written; its grant stays. -/
theorem ref_cell {w : World} {S I : Nat → Prop} {G g c : Nat} {st : Ct} {es : List CdE} (h : RefP w S I G st (.slice (some ⟨g, 0, none⟩) es.length c) es) {i j : Nat} {e : CdE} {y : Cd} {u : Value} (he : es[i]? = some e) (hj : j < 16) (hs : (fl16 e).set j u = fl16 (y, e.2)) (h2 : y.g = e.1.g) (hinv : Inv { st with l := st.l.set i y }) :
    RefP (w.setCell ⟨g, i * 16 + j, none⟩ u) S I G { st with l := st.l.set i y } (.slice (some ⟨g, 0, none⟩) es.length c) (es.set i (y, e.2)) := by
  have hz : w.heap.size ≤ (w.setCell ⟨g, i * 16 + j, none⟩ u).heap.size := by simp [World.setCell]
  have hk : ∀ k, S k → k ≠ g → (w.setCell ⟨g, i * 16 + j, none⟩ u).heap[k]? = w.heap[k]? := fun k _ hne => Below.heap_setCell _ _ _ _ hne
  have hgI := (h.sv g rfl).2.1
  have hkI : ∀ k, I k → (w.setCell ⟨g, i * 16 + j, none⟩ u).heap[k]? = w.heap[k]? := fun k hk2 => hk k (h.sI k hk2) (fun e2 => hgI (by rw [← e2]; exact hk2))
  have hm := List.mem_of_getElem? he
  refine ref_put (e' := (y, e.2)) h rfl (h.own.set he hj hs) (fun _ e => e) hk hz (fun _ e => e) h.sI ⟨h.sG.2, hgI⟩ (fun k hk2 => Nat.lt_of_lt_of_le (h.lt k hk2) hz) ?_ hinv
  show Ss _ _ y.g.scopes.length _ y.g.scopes ∧ _
  rw [h2]
  exact ⟨ss_keep (h.tk e hm).1 (h.tk e hm).2 hkI hz, (h.tk e hm).2⟩
theorem RefP.fz {w : World} {S I : Nat → Prop} {G g n c : Nat} {st : Ct} {es : List CdE} (h : RefP w S I G st (.slice (some ⟨g, 0, none⟩) n c) es) (j : Nat) : w.frozen? ⟨g, j, none⟩ = false := h.own.fz j
/-- What drop does to a code. -/
def drX (x : Cd) : Cd := if !x.used && !x.drp then { x with drp := true } else x
def drY (x : Cd) : Bool := !x.used && !x.drp
theorem drX_no {x : Cd} (h : drY x = false) : drX x = x := by unfold drX; unfold drY at h; rw [h]; rfl
theorem drX_yes {x : Cd} (h : drY x = true) : drX x = { x with drp := true } := by unfold drX; unfold drY at h; rw [h]; rfl
theorem rdrop_any {w : World} {S : Nat → Prop} {G : Nat} {st : Ct} (h : RefE w S G st) {i : Nat} {x : Cd} (hx : st.l[i]? = some x) {v : Bool} (hv : drY x = v) :
    Calls Tryz.prog 50 #[.pointer (some ⟨G, 0, none⟩), .int .i64 i] w fun e w' => e = .returned (.bool v) ∧ RefE w' S G { st with l := st.l.set i (drX x) } ∧ Mods S w w' := by
  have HE := Lib.hid h
  obtain ⟨I, rv, es, h⟩ := h
  have hil : i < es.length := by have := (List.getElem?_eq_some_iff.1 hx).1; have := h.len; omega
  obtain ⟨e, he⟩ : ∃ e, es[i]? = some e := ⟨_, List.getElem?_eq_getElem hil⟩
  have hle : es.length ≤ 256 := by rw [h.len]; exact h.inv.len
  have hex : e.1 = x := Option.some.inj ((h.get he).symm.trans hx)
  obtain ⟨A, c, rfl⟩ := h.own.len
  have c1 := cell_block h.hG 1
  simp only [List.getElem?_toArray, List.getElem?_cons_zero, List.getElem?_cons_succ] at c1
  obtain ⟨g, rfl, hg, hcl⟩ := h.own.at he
  have k13 := hcl 13 _ rfl
  have k15 := hcl 15 _ rfl
  have f15 := h.fz (i * 16 + 15)
  rw [hex] at k13 k15
  cases hv1 : v with
  | true =>
    rw [hv1] at hv
    have h1 : x.used = false := by unfold drY at hv; cases hu : x.used <;> simp [hu] at hv; rfl
    have h2 : x.drp = false := by unfold drY at hv; cases hu : x.drp <;> simp [hu] at hv; rfl
    rw [h1] at k13
    rw [h2] at k15
    have HR := Lib.hid (show RefE (w.setCell ⟨g, i * 16 + 15, none⟩ (.bool true)) S G { st with l := st.l.set i (drX x) } by
      rw [drX_yes hv]
      exact ⟨I, _, _, ref_cell (y := { x with drp := true }) h he (by decide) (by rw [← hex]; rfl) (by rw [hex]) (inv_set h.inv hx ⟨rfl, rfl, rfl⟩)⟩)
    have HG := Lib.hid (h.sv g rfl).1
    clear h he hex hcl hx hv hv1 h1 h2
    go_enter Tryz.func50, Tryz.ntmps50
    go_wp2
    go_ret
    exact ⟨rfl, HR.out, (Mods.refl S w).setCell (p := ⟨g, i * 16 + 15, none⟩) (Or.inl HG.out) (.bool true)⟩
  | false =>
    rw [hv1] at hv
    have HR := Lib.hid (show RefE w S G { st with l := st.l.set i (drX x) } by rw [drX_no hv, set_self hx]; exact HE.out)
    have hd : x.used = true ∨ (x.used = false ∧ x.drp = true) := by unfold drY at hv; cases hu : x.used <;> cases hp : x.drp <;> simp [hu, hp] at hv ⊢
    rcases hd with h1 | ⟨h1, h2⟩
    · rw [h1] at k13
      clear h he hex hcl hx hv hv1 h1 k15
      go_enter Tryz.func50, Tryz.ntmps50
      go_wp2
      go_ret
      exact ⟨rfl, HR.out, Mods.refl S w⟩
    · rw [h1] at k13
      rw [h2] at k15
      clear h he hex hcl hx hv hv1 h1 h2
      go_enter Tryz.func50, Tryz.ntmps50
      go_wp2
      go_ret
      exact ⟨rfl, HR.out, Mods.refl S w⟩
/-- The codes after the first k were looked at. -/
def drK (p : Cd → Bool) (l : List Cd) (k : Nat) : List Cd := (l.take k).map (drF p) ++ l.drop k
theorem drK_zero (p : Cd → Bool) (l : List Cd) : drK p l 0 = l := rfl
theorem drK_all (p : Cd → Bool) (l : List Cd) : drK p l l.length = l.map (drF p) := by unfold drK; rw [List.take_length, List.drop_length, List.append_nil]
theorem drK_len (p : Cd → Bool) (l : List Cd) (k : Nat) : (drK p l k).length = l.length := by unfold drK; rw [List.length_append, List.length_map, List.length_take, List.length_drop]; omega
theorem drK_at {p : Cd → Bool} {l : List Cd} {k : Nat} {x : Cd} (h : l[k]? = some x) : (drK p l k)[k]? = some x := by
  have hk := (List.getElem?_eq_some_iff.1 h).1
  unfold drK
  rw [List.getElem?_append_right (by rw [List.length_map, List.length_take]; omega), List.length_map, List.length_take, List.getElem?_drop, ← h]
  congr 1
  omega
theorem drK_next {p : Cd → Bool} {l : List Cd} {k : Nat} {x : Cd} (h : l[k]? = some x) : drK p l (k + 1) = (drK p l k).set k (drF p x) := by
  have hk := (List.getElem?_eq_some_iff.1 h).1
  unfold drK
  rw [List.set_append_right _ _ (by rw [List.length_map, List.length_take]; omega), List.length_map, List.length_take, List.take_add_one, h, List.map_append, show k - min k l.length = 0 by omega, List.append_assoc]
  congr 1
  rw [show l.drop k = x :: l.drop (k + 1) from by
    rw [List.drop_eq_getElem_cons hk, (List.getElem?_eq_some_iff.1 h).2]]
  rfl
theorem drF_hit {p : Cd → Bool} {x : Cd} (h : p x = true) : drF p x = drX x := by unfold drF drX; rw [h, Bool.and_true]
theorem drF_miss {p : Cd → Bool} {x : Cd} (h : p x = false) : drF p x = x := by unfold drF; rw [h, Bool.and_false]; rfl
def drC (p : Cd → Bool) (l : List Cd) (k : Nat) : Nat := (l.take k).countP fun x => !x.used && !x.drp && p x
theorem drC_next {p : Cd → Bool} {l : List Cd} {k : Nat} {x : Cd} (h : l[k]? = some x) : drC p l (k + 1) = drC p l k + if (drY x && p x) = true then 1 else 0 := by
  unfold drC
  rw [List.take_add_one, h, List.countP_append]
  congr 1
  simp [List.countP_cons, drY]
theorem drC_le (p : Cd → Bool) (l : List Cd) (k : Nat) : drC p l k ≤ l.length := Nat.le_trans List.countP_le_length (by rw [List.length_take]; omega)
set_option maxRecDepth 100000 in
theorem rdropSes_any {w : World} {S : Nat → Prop} {G : Nat} {st : Ct} (h : RefE w S G st) (s : Bs) {n : Nat} (hn : drN (isSes s) st = n) {st' : Ct} (hs' : drS (isSes s) st = st') :
    Calls Tryz.prog 30 #[.pointer (some ⟨G, 0, none⟩), .string s] w fun e w' => e = .returned (.int .i64 n) ∧ RefE w' S G st' ∧ Mods S w w' := by
  have HE := Lib.hid h
  have hle := h.inv.len
  have HN := Lib.hid (show drC (isSes s) st.l st.l.length = n by rw [← hn]; unfold drC drN; rw [List.take_length])
  have HS := Lib.hid (show ({ st with l := drK (isSes s) st.l st.l.length } : Ct) = st' by rw [← hs', drK_all]; rfl)
  have HCL := Lib.hid (fun k => drC_le (isSes s) st.l k)
  clear h hn hs'
  obtain ⟨m, hm⟩ : ∃ m, st.l.length = m := ⟨_, rfl⟩
  rw [hm] at hle HN HS HCL
  have HM := Lib.hid hm
  clear hm
  go_enter Tryz.func30, Tryz.ntmps30
  go_wp2
  go_loopw [5, 6] (fun nv iv wr => ∃ (k q : Nat), iv = .int .i64 k ∧ nv = .int .i64 q ∧ k ≤ m ∧ Hid (drC (isSes s) st.l k = q) ∧ RefE wr S G { st with l := drK (isSes s) st.l k } ∧ Mods S w wr) (fun _ iv _ => m - (intOf iv).toNat)
  case atStart => exact ⟨0, 0, rfl, rfl, Nat.zero_le _, rfl, HE.out, Mods.refl S w⟩
  case round =>
    obtain ⟨k, q, rfl, rfl, hk, HQ, hr, hmd⟩ := hrel
    have HR := Lib.hid hr
    have HMD := Lib.hid hmd
    have hq : q ≤ 256 := by have := HCL.out k; have := HQ.out; omega
    obtain ⟨I, rv, es, h⟩ := hr
    have hes : es.length = m := by rw [h.len, ← HM.out]; exact drK_len _ _ _
    obtain ⟨A, c, rfl⟩ := h.own.len
    have H := Lib.hid h
    have c1 := cell_block h.hG 1
    simp only [List.getElem?_toArray, List.getElem?_cons_zero, List.getElem?_cons_succ] at c1
    rw [hes] at c1
    clear h hmd
    by_cases hlt : k < m
    · obtain ⟨e, he⟩ : ∃ e, es[k]? = some e := ⟨_, List.getElem?_eq_getElem (by omega)⟩
      obtain ⟨g, rfl, hg, hcl⟩ := H.out.own.at he
      obtain ⟨x, hx⟩ : ∃ x, st.l[k]? = some x := ⟨_, List.getElem?_eq_getElem (by rw [HM.out]; exact hlt)⟩
      have hex : e.1 = x := Option.some.inj ((H.out.get he).symm.trans (drK_at hx))
      have k4 := hcl 4 _ rfl
      rw [hex] at k4
      have HX := Lib.hid (show (drK (isSes s) st.l k)[k]? = some x from drK_at hx)
      have HNX := Lib.hid (drK_next (p := isSes s) hx)
      have HCN := Lib.hid (drC_next (p := isSes s) hx)
      clear hcl he hex hx hes
      obtain ⟨y, hy⟩ : ∃ y, x.g.session = y := ⟨_, rfl⟩
      rw [hy] at k4
      by_cases hd : y = s
      · have hbd : (y.toList == s.toList) = true := by rw [beq_bs]; simpa using hd
        have hbd2 : y.toList = s.toList := by rw [hd]
        have HP := Lib.hid (show isSes s x = true by unfold isSes; rw [hy]; simpa using hd)
        have HF := Lib.hid (drF_hit HP.out)
        clear hd hy
        go_wp2_with fail
        cases hv : drY x with
        | true =>
          have HV := Lib.hid hv
          have HC2 := Lib.hid (show drC (isSes s) st.l (k + 1) = q + 1 by rw [HCN.out, hv, HP.out, HQ.out]; rfl)
          clear hv
          refine (rdrop_any HR.out HX.out HV.out).mono ?_
          rintro e w2 ⟨rfl, hr2, hm2⟩
          have HR2 := Lib.hid (show RefE w2 S G { st with l := drK (isSes s) st.l (k + 1) } by rw [HNX.out, HF.out]; exact hr2)
          have HM2 := Lib.hid (HMD.out.trans (Go.Proofs.YtioabjniipkncaaGreatDoor.Mods.mono hm2 (fun _ e => Or.inl e)))
          clear hr2 hm2 c1
          go_wp2
          go_roundw
          case rel => exact ⟨k + 1, q + 1, by go_num, by go_num, by omega, HC2.out, HR2.out, HM2.out⟩
          case measure => simp [intOf]; omega
        | false =>
          have HV := Lib.hid hv
          have HC2 := Lib.hid (show drC (isSes s) st.l (k + 1) = q by rw [HCN.out, hv, HP.out, HQ.out]; rfl)
          clear hv
          refine (rdrop_any HR.out HX.out HV.out).mono ?_
          rintro e w2 ⟨rfl, hr2, hm2⟩
          have HR2 := Lib.hid (show RefE w2 S G { st with l := drK (isSes s) st.l (k + 1) } by rw [HNX.out, HF.out]; exact hr2)
          have HM2 := Lib.hid (HMD.out.trans (Go.Proofs.YtioabjniipkncaaGreatDoor.Mods.mono hm2 (fun _ e => Or.inl e)))
          clear hr2 hm2 c1
          go_wp2
          go_roundw
          case rel => exact ⟨k + 1, q, by go_num, rfl, by omega, HC2.out, HR2.out, HM2.out⟩
          case measure => simp [intOf]; omega
      · have hbd : (y.toList == s.toList) = false := by rw [beq_bs]; simpa using hd
        have hbd2 : ¬ y.toList = s.toList := by rw [← beq_iff_eq, hbd]; decide
        have HP := Lib.hid (show isSes s x = false by unfold isSes; rw [hy]; simpa using hd)
        have HC2 := Lib.hid (show drC (isSes s) st.l (k + 1) = q by rw [HCN.out, HP.out, HQ.out, Bool.and_false]; rfl)
        have HR2 := Lib.hid (show RefE wr S G { st with l := drK (isSes s) st.l (k + 1) } by rw [HNX.out, drF_miss HP.out, set_self HX.out]; exact HR.out)
        clear hd hy
        go_wp2
        go_roundw
        case rel => exact ⟨k + 1, q, by go_num, rfl, by omega, HC2.out, HR2.out, HMD.out⟩
        case measure => simp [intOf]; omega
    · have e : k = m := by omega
      subst e
      go_wp2
      go_ret
      exact ⟨by rw [← HN.out, HQ.out]; rfl, by rw [← HS.out]; exact HR.out, HMD.out⟩
set_option maxRecDepth 100000 in
theorem rdropUsr_any {w : World} {S : Nat → Prop} {G : Nat} {st : Ct} (h : RefE w S G st) (s : Bs) {n : Nat} (hn : drN (isUsr s) st = n) {st' : Ct} (hs' : drS (isUsr s) st = st') :
    Calls Tryz.prog 31 #[.pointer (some ⟨G, 0, none⟩), .string s] w fun e w' => e = .returned (.int .i64 n) ∧ RefE w' S G st' ∧ Mods S w w' := by
  have HE := Lib.hid h
  have hle := h.inv.len
  have HN := Lib.hid (show drC (isUsr s) st.l st.l.length = n by rw [← hn]; unfold drC drN; rw [List.take_length])
  have HS := Lib.hid (show ({ st with l := drK (isUsr s) st.l st.l.length } : Ct) = st' by rw [← hs', drK_all]; rfl)
  have HCL := Lib.hid (fun k => drC_le (isUsr s) st.l k)
  clear h hn hs'
  obtain ⟨m, hm⟩ : ∃ m, st.l.length = m := ⟨_, rfl⟩
  rw [hm] at hle HN HS HCL
  have HM := Lib.hid hm
  clear hm
  go_enter Tryz.func31, Tryz.ntmps31
  go_wp2
  go_loopw [5, 6] (fun nv iv wr => ∃ (k q : Nat), iv = .int .i64 k ∧ nv = .int .i64 q ∧ k ≤ m ∧ Hid (drC (isUsr s) st.l k = q) ∧ RefE wr S G { st with l := drK (isUsr s) st.l k } ∧ Mods S w wr) (fun _ iv _ => m - (intOf iv).toNat)
  case atStart => exact ⟨0, 0, rfl, rfl, Nat.zero_le _, rfl, HE.out, Mods.refl S w⟩
  case round =>
    obtain ⟨k, q, rfl, rfl, hk, HQ, hr, hmd⟩ := hrel
    have HR := Lib.hid hr
    have HMD := Lib.hid hmd
    have hq : q ≤ 256 := by have := HCL.out k; have := HQ.out; omega
    obtain ⟨I, rv, es, h⟩ := hr
    have hes : es.length = m := by rw [h.len, ← HM.out]; exact drK_len _ _ _
    obtain ⟨A, c, rfl⟩ := h.own.len
    have H := Lib.hid h
    have c1 := cell_block h.hG 1
    simp only [List.getElem?_toArray, List.getElem?_cons_zero, List.getElem?_cons_succ] at c1
    rw [hes] at c1
    clear h hmd
    by_cases hlt : k < m
    · obtain ⟨e, he⟩ : ∃ e, es[k]? = some e := ⟨_, List.getElem?_eq_getElem (by omega)⟩
      obtain ⟨g, rfl, hg, hcl⟩ := H.out.own.at he
      obtain ⟨x, hx⟩ : ∃ x, st.l[k]? = some x := ⟨_, List.getElem?_eq_getElem (by rw [HM.out]; exact hlt)⟩
      have hex : e.1 = x := Option.some.inj ((H.out.get he).symm.trans (drK_at hx))
      have k4 := hcl 1 _ rfl
      rw [hex] at k4
      have HX := Lib.hid (show (drK (isUsr s) st.l k)[k]? = some x from drK_at hx)
      have HNX := Lib.hid (drK_next (p := isUsr s) hx)
      have HCN := Lib.hid (drC_next (p := isUsr s) hx)
      clear hcl he hex hx hes
      obtain ⟨y, hy⟩ : ∃ y, x.g.user = y := ⟨_, rfl⟩
      rw [hy] at k4
      by_cases hd : y = s
      · have hbd : (y.toList == s.toList) = true := by rw [beq_bs]; simpa using hd
        have hbd2 : y.toList = s.toList := by rw [hd]
        have HP := Lib.hid (show isUsr s x = true by unfold isUsr; rw [hy]; simpa using hd)
        have HF := Lib.hid (drF_hit HP.out)
        clear hd hy
        go_wp2_with fail
        cases hv : drY x with
        | true =>
          have HV := Lib.hid hv
          have HC2 := Lib.hid (show drC (isUsr s) st.l (k + 1) = q + 1 by rw [HCN.out, hv, HP.out, HQ.out]; rfl)
          clear hv
          refine (rdrop_any HR.out HX.out HV.out).mono ?_
          rintro e w2 ⟨rfl, hr2, hm2⟩
          have HR2 := Lib.hid (show RefE w2 S G { st with l := drK (isUsr s) st.l (k + 1) } by rw [HNX.out, HF.out]; exact hr2)
          have HM2 := Lib.hid (HMD.out.trans (Go.Proofs.YtioabjniipkncaaGreatDoor.Mods.mono hm2 (fun _ e => Or.inl e)))
          clear hr2 hm2 c1
          go_wp2
          go_roundw
          case rel => exact ⟨k + 1, q + 1, by go_num, by go_num, by omega, HC2.out, HR2.out, HM2.out⟩
          case measure => simp [intOf]; omega
        | false =>
          have HV := Lib.hid hv
          have HC2 := Lib.hid (show drC (isUsr s) st.l (k + 1) = q by rw [HCN.out, hv, HP.out, HQ.out]; rfl)
          clear hv
          refine (rdrop_any HR.out HX.out HV.out).mono ?_
          rintro e w2 ⟨rfl, hr2, hm2⟩
          have HR2 := Lib.hid (show RefE w2 S G { st with l := drK (isUsr s) st.l (k + 1) } by rw [HNX.out, HF.out]; exact hr2)
          have HM2 := Lib.hid (HMD.out.trans (Go.Proofs.YtioabjniipkncaaGreatDoor.Mods.mono hm2 (fun _ e => Or.inl e)))
          clear hr2 hm2 c1
          go_wp2
          go_roundw
          case rel => exact ⟨k + 1, q, by go_num, rfl, by omega, HC2.out, HR2.out, HM2.out⟩
          case measure => simp [intOf]; omega
      · have hbd : (y.toList == s.toList) = false := by rw [beq_bs]; simpa using hd
        have hbd2 : ¬ y.toList = s.toList := by rw [← beq_iff_eq, hbd]; decide
        have HP := Lib.hid (show isUsr s x = false by unfold isUsr; rw [hy]; simpa using hd)
        have HC2 := Lib.hid (show drC (isUsr s) st.l (k + 1) = q by rw [HCN.out, HP.out, HQ.out, Bool.and_false]; rfl)
        have HR2 := Lib.hid (show RefE wr S G { st with l := drK (isUsr s) st.l (k + 1) } by rw [HNX.out, drF_miss HP.out, set_self HX.out]; exact HR.out)
        clear hd hy
        go_wp2
        go_roundw
        case rel => exact ⟨k + 1, q, by go_num, rfl, by omega, HC2.out, HR2.out, HMD.out⟩
        case measure => simp [intOf]; omega
    · have e : k = m := by omega
      subst e
      go_wp2
      go_ret
      exact ⟨by rw [← HN.out, HQ.out]; rfl, by rw [← HS.out]; exact HR.out, HMD.out⟩
end Go.Proofs.YtioabjniipkncaaGreatDoor.Rc
