/- Layer 23 (flows): an act, done to both; acts in a row; what is apart. -/
import Derived.Test.YtncgponcedkihaaFu
import Derived.Test.YtncgponcedkihaaOpG
namespace Go.Proofs.Ytncgponcedkihaa
open Go.RowKit
set_option linter.unusedSimpArgs false
set_option linter.unusedVariables false
set_option maxRecDepth 20000
set_option maxHeartbeats 4000000
attribute [local irreducible] WPc WPl WPq ReadR OpT BinR HasS bx rdN rowN Take Takes Prov Triple ResF BuildP Done ag Int.decLt Int.decLe Int.instDecidableEq
theorem fc_w {x : Fc} (h : fcW x) : flW x.f ∧ flW (replyF x.f x.a) := by
  obtain ⟨_, h2, h3, _⟩ := h
  refine ⟨h2, ?_, h2.1⟩
  obtain ⟨_, _, hp, _⟩ := h3
  exact hp
def fcs (l : List Fc) : List Value := (l.map fun x => flat (fcC x)).flatten
theorem fcC_len (x : Fc) : (flat (fcC x)).length = 61 := by simp [flat_eq, x.f.src.len, x.f.dst.len, x.a.ad.len, u8s_length]
theorem fcs_len {l : List Fc} : (fcs l).length = l.length * 61 := rows_len fcC_len
theorem fcs_at {l : List Fc} {i : Nat} {x : Fc} (h : l[i]? = some x) : ((fcs l).drop (i * 61)).take 61 = flat (fcC x) := by unfold fcs; exact rows_drop (c := fcC) fcC_len h
attribute [local irreducible] fds mp rg mpe mget mfind mput mdel pickG fcs
theorem do_t (gT m1 m2 gX : Nat) (most : Int) (vl : Value) (L D : LL) (R : RR) (hk0 : lkd L R) (hlen : L.length ≤ 4096) (hD : D.length ≤ 50000) (hvl : vl.oneCell' = true) (x : Fc) (hx : fcW x) (hw : ∀ y ∈ D, flW y.1) (hm1 : 1 ≤ most) (hfr : frel L D ∨ D = []) :
    Triple Try.prog 28 #[hPf gT, hPr gX, ag (fcC x)] [bx gT 141 (fxc most m1 m2), mp flM m1 L, mp rpM m2 R, bx gX 69 (rfx most vl), rowN 75 59 vl D.length (fds D)] (RDo gT m1 m2 gX most L D) := by
  obtain ⟨hf, hr⟩ := fc_w hx
  by_cases h1 : x.k = 1
  · exact do1_t gT m1 m2 gX most vl L D R hk0 hD hvl x hf h1
  by_cases h2 : x.k = 2
  · exact do2_t gT m1 m2 gX most vl L D R hk0 hD hvl x hf h2
  by_cases h3 : x.k = 3
  · exact do3_t gT m1 m2 gX most vl L D R hk0 hlen hD hvl x hf h3
  by_cases h4 : x.k = 4
  · exact do4_t gT m1 m2 gX most vl L D R hk0 hlen hD hvl x hf h4
  by_cases h5 : x.k = 5
  · exact do5_t gT m1 m2 gX most vl L D R hk0 hlen hD hvl x hf h5
  by_cases h6 : x.k = 6
  · exact do6_t gT m1 m2 gX most vl L D R hk0 hlen hD hvl x hf h6
  by_cases hq : frel L D
  · exact do0_t gT m1 m2 gX most vl L D R hk0 hlen hD hvl x hf hr hw _ (fun n D' hp => (rput_ok hq hk0 hp).1) (fun _ => rfl) h1 h2 h3 h4 h5 h6
  · have hD0 : D = [] := hfr.resolve_left hq
    exact do0_t gT m1 m2 gX most vl L D R hk0 hlen hD hvl x hf hr hw 0 (fun n D' hp => by rw [hD0] at hp; exact rputP_nil hm1 hp) (fun h => absurd h hq) h1 h2 h3 h4 h5 h6
theorem fl_apart {L o : LL} {R : RR} (hk : lkd L R) (hp : o.Perm L) {k m : Nat} {x z : Fl × En} (hx : o[k]? = some x) (hz : o[m]? = some z) (hne : m < k) : ¬ replyE x = replyE z ∧ ¬ x.1 = z.1 := by
  have hn : (o.map (·.1)).Nodup := (hp.map _).nodup_iff.2 hk.kn
  have h2 : ¬ x.1 = z.1 := fun e => by
    have e1 : (o.map (·.1))[k]? = some x.1 := by rw [List.getElem?_map, hx]; rfl
    have e2 : (o.map (·.1))[m]? = some x.1 := by rw [List.getElem?_map, hz, e]; rfl
    have hij : k = m := (List.getElem?_inj (List.getElem?_eq_some_iff.1 e1).1 hn).1 (e1.trans e2.symm)
    omega
  refine ⟨fun e => h2 ?_, h2⟩
  have mx := mfind_at hk.kn (hp.mem_iff.1 (List.mem_of_getElem? hx))
  have mz := mfind_at hk.kn (hp.mem_iff.1 (List.mem_of_getElem? hz))
  have r1 := (hk.li (replyE x) x.1).2 ⟨x.2, mx, rfl⟩
  have r2 := (hk.li (replyE x) z.1).2 ⟨z.2, mz, e.symm⟩
  rw [r1] at r2
  exact Option.some.inj r2
theorem fl_own {L o : LL} {R : RR} (hk : lkd L R) (hp : o.Perm L) {k : Nat} {x : Fl × En} (hx : o[k]? = some x) : mget rpM R (replyE x) = x.1 ∧ mhas R (replyE x) = true ∧ flW x.1 ∧ flW (replyE x) ∧ ∀ now, getV L x.1 now = decide (now < x.2.til) := by
  have hm := hp.mem_iff.1 (List.mem_of_getElem? hx)
  have mx := mfind_at hk.kn hm
  have r1 := (hk.li (replyE x) x.1).2 ⟨x.2, mx, rfl⟩
  exact ⟨by rw [mget_of, r1]; rfl, by unfold mhas; rw [r1]; rfl, hk.w1 _ hm, hk.w2 _ hm, fun now => (get_some mx).1⟩
end Go.Proofs.Ytncgponcedkihaa
