/-
  The reference: fits, revoke, RevokeSession, RevokeUser, RevokeClient.
-/
import Derived.Test.YtfeljihbaekfmaaRfXc
namespace Go.Proofs.Ytfeljihbaekfmaa.Rf
open Go.RowKit Go.Proofs.Ytfeljihbaekfmaa.Fo

def fitV (kind : Int) (a b : Bs) (g : Gr) : Bool := if kind = 0 then decide (g.session = a) else if kind = 1 then decide (g.user = a) else decide (g.user = a) && decide (g.client = b)
def fitF (kind : Int) (a b : Bs) (x : Fm) : Bool := fitV kind a b x.g
theorem fits_any (kind : Int) (hk : kind = 0 ∨ kind = 1 ∨ kind = 2) (a b : Bs) (g : Gr) (A : Option Addr) (n c : Nat) (w : World) :
    Calls Try.prog 73 #[.agg #[.string g.user, .string g.client, .string g.tenant, .string g.session, .string g.redirect, .string g.nonce, .string g.challenge, .int .i64 g.method, .slice A n c, .int .i64 g.auth, .int .i64 g.level], .int .i64 kind, .string a, .string b] w fun e w' => e = .returned (.bool (fitV kind a b g)) ∧ Below w.heap.size w w' := by
  rcases hk with rfl | rfl | rfl
  · have HF := Lib.hid (show fitV 0 a b g = (g.session.toList == a.toList) by rw [beq_bs]; rfl)
    go_enter Try.func73, Try.ntmps73
    go_wp2
    go_ret
    exact ⟨ret_bool HF.out.symm, by go_grown⟩
  · have HF := Lib.hid (show fitV 1 a b g = (g.user.toList == a.toList) by rw [beq_bs]; rfl)
    go_enter Try.func73, Try.ntmps73
    go_wp2
    go_ret
    exact ⟨ret_bool HF.out.symm, by go_grown⟩
  · have HF := Lib.hid (show fitV 2 a b g = ((g.user.toList == a.toList) && (g.client.toList == b.toList)) by rw [beq_bs, beq_bs]; rfl)
    cases hu : (g.user.toList == a.toList) with
    | true =>
      rw [hu] at HF
      go_enter Try.func73, Try.ntmps73
      go_wp2
      go_ret
      exact ⟨ret_bool (by rw [HF.out]; simp), by go_grown⟩
    | false =>
      rw [hu] at HF
      go_enter Try.func73, Try.ntmps73
      go_wp2
      go_ret
      exact ⟨ret_bool (by rw [HF.out]; simp), by go_grown⟩
/-- Some families are done. -/
def midR (p : Fm → Bool) (k : Nat) (st : St) : St := { st with l := (st.l.take k).map (endF p) ++ st.l.drop k }
theorem midR_zero (p : Fm → Bool) (st : St) : midR p 0 st = st := by unfold midR; simp
theorem midR_all (p : Fm → Bool) (st : St) {k : Nat} (h : st.l.length ≤ k) : midR p k st = endS p st := by
  unfold midR endS
  rw [List.take_of_length_le h, List.drop_of_length_le h, List.append_nil]
theorem midR_at {p : Fm → Bool} {st : St} {k : Nat} {x : Fm} (hx : st.l[k]? = some x) : (midR p k st).l[k]? = some x := by
  have hk := (List.getElem?_eq_some_iff.1 hx).1
  unfold midR
  simp only
  rw [List.getElem?_append_right (by rw [List.length_map, List.length_take]; omega), List.length_map, List.length_take, List.getElem?_drop]
  rw [show k + (k - min k st.l.length) = k by omega]
  exact hx
theorem midR_succ {p : Fm → Bool} {st : St} {k : Nat} {x : Fm} (hx : st.l[k]? = some x) : midR p (k + 1) st = { midR p k st with l := (midR p k st).l.set k (endF p x) } := by
  have hk := (List.getElem?_eq_some_iff.1 hx).1
  unfold midR
  simp only
  congr 1
  rw [List.take_add_one, hx, List.map_append, List.set_append_right _ _ (by rw [List.length_map, List.length_take]; omega), List.length_map, List.length_take, show k - min k st.l.length = 0 by omega, List.drop_eq_getElem_cons hk, List.set_cons_zero]
  simp
theorem endN_take {p : Fm → Bool} {st : St} {k : Nat} {x : Fm} (hx : st.l[k]? = some x) : (st.l.take (k + 1)).countP (fun x => !x.ended && p x) = (st.l.take k).countP (fun x => !x.ended && p x) + if (!x.ended && p x) = true then 1 else 0 := by
  rw [List.take_add_one, hx]
  simp only [Option.toList_some, List.countP_append, List.countP_cons, List.countP_nil]
  omega
theorem set_self {α : Type} {l : List α} {k : Nat} {x : α} (hx : l[k]? = some x) : l.set k x = l := by
  refine List.ext_getElem? fun j => ?_
  rw [List.getElem?_set]
  by_cases e2 : k = j
  · subst e2; rw [if_pos rfl, if_pos (List.getElem?_eq_some_iff.1 hx).1, hx]
  · rw [if_neg e2]
set_option maxRecDepth 100000 in
set_option maxHeartbeats 4000000 in
theorem rrev_any {w : World} {S : Nat → Prop} {G : Nat} {st : St} (h : RefE w S G st) (kind : Int) (hkd : kind = 0 ∨ kind = 1 ∨ kind = 2) (a b : Bs) :
    Calls Try.prog 60 #[.pointer (some ⟨G, 0, none⟩), .int .i64 kind, .string a, .string b] w fun e w' => e = .returned (.int .i64 (endN (fitF kind a b) st : Nat)) ∧ RefE w' S G (endS (fitF kind a b) st) ∧ Mods S w w' := by
  have HE := Lib.hid h
  have hle : st.l.length ≤ 256 := h.inv.len
  have HKD := Lib.hid hkd
  clear h hkd
  go_enter Try.func60, Try.ntmps60
  go_wp2_with fail
  refine (rmade_yes HE.out).mono ?_
  rintro e w1 ⟨rfl, rfl⟩
  go_wp2_with fail
  go_loopw [9, 10] (fun nv iv wr => ∃ k : Nat, iv = .int .i64 k ∧ k ≤ st.l.length ∧ nv = .int .i64 ((st.l.take k).countP (fun x => !x.ended && fitF kind a b x) : Nat) ∧ RefE wr S G (midR (fitF kind a b) k st) ∧ Mods S w wr) (fun _ iv _ => st.l.length - (intOf iv).toNat)
  case atStart => exact ⟨0, rfl, Nat.zero_le _, rfl, by rw [midR_zero]; exact HE.out, Mods.refl _ _⟩
  case round =>
    obtain ⟨k, rfl, hk, rfl, hrep, hm⟩ := hrel
    have HM := Lib.hid hm
    obtain ⟨I, v, es, h⟩ := hrep
    obtain ⟨A, c, rfl⟩ := h.own.len
    have H := Lib.hid h
    have hlen : es.length = st.l.length := by rw [h.len]; unfold midR; simp; omega
    have c3 := cell_block h.hG 3
    simp only [List.getElem?_toArray, List.getElem?_cons_zero, List.getElem?_cons_succ] at c3
    rw [hlen] at c3
    clear hm h
    by_cases hlt : k < st.l.length
    · obtain ⟨x, hx⟩ : ∃ x, st.l[k]? = some x := ⟨_, List.getElem?_eq_getElem hlt⟩
      have HN := Lib.hid (endN_take (p := fitF kind a b) hx)
      have hcl : (st.l.take k).countP (fun x => !x.ended && fitF kind a b x) ≤ 256 := Nat.le_trans List.countP_le_length (by rw [List.length_take]; omega)
      obtain ⟨q, hq⟩ : ∃ q, (st.l.take k).countP (fun x => !x.ended && fitF kind a b x) = q := ⟨_, rfl⟩
      rw [hq] at HN hcl
      rw [hq]
      clear hq
      obtain ⟨e, he⟩ : ∃ e, es[k]? = some e := ⟨_, List.getElem?_eq_getElem (by omega)⟩
      have hex : e.1 = x := Option.some.inj ((H.out.get he).symm.trans (midR_at hx))
      have hsuc := midR_succ (p := fitF kind a b) hx
      have hsame := set_self (midR_at (p := fitF kind a b) hx)
      obtain ⟨g, rfl, hg, hc⟩ := H.out.own.at he
      have k15 : wr.cell? ⟨g, k * 16 + 15, none⟩ = some (.bool x.ended) := by rw [← hex]; exact hc 15 _ rfl
      cases hen : x.ended with
      | true =>
        have HS := Lib.hid (show RefE wr S G (midR (fitF kind a b) (k + 1) st) by
          rw [hsuc]
          have : endF (fitF kind a b) x = x := by unfold endF; rw [hen]; simp
          rw [this, hsame]
          exact ⟨_, _, _, H.out⟩)
        rw [hen] at HN k15
        clear hsuc hsame hc he hex hx hen
        go_wp2
        go_roundw
        case rel => exact ⟨k + 1, by go_num, by omega, by rw [HN.out]; rfl, HS.out, HM.out⟩
        case measure => simp [intOf]; omega
      | false =>
        obtain ⟨k1, k2, k3, k4, k5, k6, k7, k8, k9, k10, k11⟩ : wr.cell? ⟨g, k * 16 + 1, none⟩ = some (.string x.g.user) ∧ wr.cell? ⟨g, k * 16 + 2, none⟩ = some (.string x.g.client) ∧ wr.cell? ⟨g, k * 16 + 3, none⟩ = some (.string x.g.tenant) ∧ wr.cell? ⟨g, k * 16 + 4, none⟩ = some (.string x.g.session) ∧ wr.cell? ⟨g, k * 16 + 5, none⟩ = some (.string x.g.redirect) ∧ wr.cell? ⟨g, k * 16 + 6, none⟩ = some (.string x.g.nonce) ∧ wr.cell? ⟨g, k * 16 + 7, none⟩ = some (.string x.g.challenge) ∧ wr.cell? ⟨g, k * 16 + 8, none⟩ = some (.int .i64 x.g.method) ∧ wr.cell? ⟨g, k * 16 + 9, none⟩ = some (.slice e.2.1 x.g.scopes.length e.2.2.1) ∧ wr.cell? ⟨g, k * 16 + 10, none⟩ = some (.int .i64 x.g.auth) ∧ wr.cell? ⟨g, k * 16 + 11, none⟩ = some (.int .i64 x.g.level) := by
          rw [← hex]
          exact ⟨hc 1 _ rfl, hc 2 _ rfl, hc 3 _ rfl, hc 4 _ rfl, hc 5 _ rfl, hc 6 _ rfl, hc 7 _ rfl, hc 8 _ rfl, hc 9 _ rfl, hc 10 _ rfl, hc 11 _ rfl⟩
        rw [hen] at HN k15
        have HH : ∀ b2, fitF kind a b x = b2 → endF (fitF kind a b) x = if b2 then { x with ended := true } else x := fun b2 hb2 => by unfold endF; rw [hen, hb2]; cases b2 <;> rfl
        have HEX := Lib.hid hex
        have HSU := Lib.hid hsuc
        have HSA := Lib.hid hsame
        have HEE := Lib.hid he
        clear hsuc hsame hc he hex hx hen
        go_wp2_with fail
        refine (fits_any kind HKD.out a b x.g e.2.1 x.g.scopes.length e.2.2.1 wr).mono ?_
        rintro e2 w2 ⟨rfl, hb2⟩
        have HB2 := Lib.hid hb2
        have HR2 := Lib.hid (H.out.below hb2)
        have HM2 := Lib.hid (HM.out.below hb2)
        have c3' := cell_block HR2.out.hG 3
        simp only [List.getElem?_toArray, List.getElem?_cons_zero, List.getElem?_cons_succ] at c3'
        rw [hlen] at c3'
        have k15' := cell_below hb2 k15
        have f15' := HR2.out.fz (k * 16 + 15)
        have HFG := Lib.hid (H.out.sv g rfl).1
        have hfv : fitF kind a b x = fitV kind a b x.g := rfl
        rw [← hfv]
        clear hb2 c3 k1 k2 k3 k4 k5 k6 k7 k8 k9 k10 k11 k15 hfv
        cases hb3 : fitF kind a b x with
        | true =>
          rw [hb3] at HN
          have HS := Lib.hid (show RefE (w2.setCell ⟨g, k * 16 + 15, none⟩ (.bool true)) S G (midR (fitF kind a b) (k + 1) st) by
            rw [HSU.out, HH true hb3, if_pos rfl]
            have := ref_ended HR2.out HEE.out
            rw [HEX.out] at this
            exact ⟨_, _, _, this⟩)
          clear hb3 HH
          go_wp2
          go_roundw
          case rel => exact ⟨k + 1, by go_num, by omega, by rw [HN.out]; rfl, HS.out, HM2.out.setCell (p := ⟨g, k * 16 + 15, none⟩) (Or.inl HFG.out) (.bool true)⟩
          case measure => simp [intOf]; omega
        | false =>
          rw [hb3] at HN
          have HS := Lib.hid (show RefE w2 S G (midR (fitF kind a b) (k + 1) st) by
            rw [HSU.out, HH false hb3, if_neg (by decide), HSA.out]
            exact ⟨_, _, _, HR2.out⟩)
          clear hb3 HH
          go_wp2
          go_roundw
          case rel => exact ⟨k + 1, by go_num, by omega, by rw [HN.out]; rfl, HS.out, HM2.out⟩
          case measure => simp [intOf]; omega
    · have HF := Lib.hid (show (st.l.take k).countP (fun x => !x.ended && fitF kind a b x) = endN (fitF kind a b) st by rw [List.take_of_length_le (by omega)]; rfl)
      have HS := Lib.hid (show RefE wr S G (endS (fitF kind a b) st) by rw [← midR_all (fitF kind a b) st (k := k) (by omega)]; exact ⟨_, _, _, H.out⟩)
      rw [HF.out]
      go_wp2
      go_ret
      exact ⟨rfl, HS.out, HM.out⟩
theorem rSes_any {w : World} {S : Nat → Prop} {G : Nat} {st : St} (h : RefE w S G st) (s : Bs) :
    Calls Try.prog 37 #[.pointer (some ⟨G, 0, none⟩), .string s] w fun e w' => e = .returned (.int .i64 (endN (isSes s) st : Nat)) ∧ RefE w' S G (endS (isSes s) st) ∧ Mods S w w' := by
  have HE := Lib.hid h
  clear h
  go_enter Try.func37, Try.ntmps37
  go_wp2_with fail
  refine (rrev_any HE.out 0 (Or.inl rfl) s ⟨#[]⟩).mono ?_
  rintro e w1 ⟨rfl, h1, h2⟩
  have H1 := Lib.hid h1
  have H2 := Lib.hid h2
  clear h1 h2
  go_wp2
  go_ret
  exact ⟨rfl, H1.out, H2.out⟩
theorem rUsr_any {w : World} {S : Nat → Prop} {G : Nat} {st : St} (h : RefE w S G st) (s : Bs) :
    Calls Try.prog 38 #[.pointer (some ⟨G, 0, none⟩), .string s] w fun e w' => e = .returned (.int .i64 (endN (isUsr s) st : Nat)) ∧ RefE w' S G (endS (isUsr s) st) ∧ Mods S w w' := by
  have HE := Lib.hid h
  clear h
  go_enter Try.func38, Try.ntmps38
  go_wp2_with fail
  refine (rrev_any HE.out 1 (Or.inr (Or.inl rfl)) s ⟨#[]⟩).mono ?_
  rintro e w1 ⟨rfl, h1, h2⟩
  have H1 := Lib.hid h1
  have H2 := Lib.hid h2
  clear h1 h2
  go_wp2
  go_ret
  exact ⟨rfl, H1.out, H2.out⟩
theorem rCli_any {w : World} {S : Nat → Prop} {G : Nat} {st : St} (h : RefE w S G st) (s c : Bs) :
    Calls Try.prog 39 #[.pointer (some ⟨G, 0, none⟩), .string s, .string c] w fun e w' => e = .returned (.int .i64 (endN (isCli s c) st : Nat)) ∧ RefE w' S G (endS (isCli s c) st) ∧ Mods S w w' := by
  have HE := Lib.hid h
  clear h
  go_enter Try.func39, Try.ntmps39
  go_wp2_with fail
  refine (rrev_any HE.out 2 (Or.inr (Or.inr rfl)) s c).mono ?_
  rintro e w1 ⟨rfl, h1, h2⟩
  have H1 := Lib.hid h1
  have H2 := Lib.hid h2
  clear h1 h2
  go_wp2
  go_ret
  exact ⟨rfl, H1.out, H2.out⟩
end Go.Proofs.Ytfeljihbaekfmaa.Rf
