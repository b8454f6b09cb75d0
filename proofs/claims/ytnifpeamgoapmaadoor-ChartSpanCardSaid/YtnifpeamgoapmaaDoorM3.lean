/- The queue's methods up and down: a heap that is broken at one place is mended. -/
import Derived.Test.YtnifpeamgoapmaaDoorQb
import Derived.Carry
import Derived.Deep.RegionLaw
set_option linter.unusedVariables false
set_option linter.unusedSimpArgs false
namespace Go.Proofs.YtnifpeamgoapmaaDoor
open Go Go.RowKit

/-- All that the methods ask of the world: the queue, the best values, each element one of the N. -/
structure QAll (w : World) (q pl sv S be N : Nat) (hv : Value) (best : List Vl) (es : List Ent) (nx ck : Int) : Prop where
  Q : QS w q pl (lessF sv) hv es nx ck
  B : BestAt w sv S be N best
  E : EOK es N
theorem QAll.below {w w' : World} {q pl sv S be N : Nat} {hv : Value} {best : List Vl} {es : List Ent} {nx ck : Int} (h : QAll w q pl sv S be N hv best es nx ck) (hb : Below w.heap.size w w') : QAll w' q pl sv S be N hv best es nx ck := by
  obtain ⟨f, gm, h1, h2⟩ := h.Q.ex
  exact ⟨⟨f, gm, h1.below hb, h2⟩, h.B.below hb, h.E⟩
theorem EOK.perm {es es' : List Ent} {N : Nat} (h : EOK es N) (hp : es'.Perm es) : EOK es' N := fun e he => h e (hp.mem_iff.1 he)

theorem before_int (q pl sv S be N : Nat) (a b : Int) (best : List Vl) (hv : Value) (es : List Ent) (nx ck : Int) {ei ej : Ent} (ha : 0 ≤ a) (hb : 0 ≤ b) (hei : es[a.toNat]? = some ei) (hej : es[b.toNat]? = some ej) (hn : es.length ≤ 1000) (hN : N ≤ 1000) (w : World)
    (hQ : QAll w q pl sv S be N hv best es nx ck) {c : Bool} (hc : bef (vof best) ei ej = c) :
    Calls Tryd.prog 71 #[PB q, .int .i64 a, .int .i64 b] w fun e w' => e = .returned (.bool c) ∧ Below w.heap.size w w' := by
  subst hc
  obtain ⟨a, rfl⟩ := Int.eq_ofNat_of_zero_le ha
  obtain ⟨b, rfl⟩ := Int.eq_ofNat_of_zero_le hb
  obtain ⟨f, gm, h1, h2⟩ := hQ.Q.ex
  rw [Int.toNat_natCast] at hei hej
  exact before_any q pl sv S be N a b best hv es f gm nx ck hei hej hn hN hQ.E w h1 hQ.B
theorem swap_int (q pl sv S be N : Nat) (a b : Int) (best : List Vl) (hv : Value) (es : List Ent) (nx ck : Int) (ha : 0 ≤ a) (hb : 0 ≤ b) (hi : a.toNat < es.length) (hj : b.toNat < es.length) (hn : es.length ≤ 1000) (w : World)
    (hQ : QAll w q pl sv S be N hv best es nx ck) :
    Calls Tryd.prog 70 #[PB q, .int .i64 a, .int .i64 b] w fun e w' => e = .returned (.tuple #[]) ∧ QAll w' q pl sv S be N hv best (sw es a.toNat b.toNat) nx ck ∧ Kp (QF q pl hv) w w' := by
  obtain ⟨a, rfl⟩ := Int.eq_ofNat_of_zero_le ha
  obtain ⟨b, rfl⟩ := Int.eq_ofNat_of_zero_le hb
  rw [Int.toNat_natCast] at hi hj
  simp only [Int.toNat_natCast]
  obtain ⟨f, gm, h1, h2⟩ := hQ.Q.ex
  exact (swap_any q pl a b (lessF sv) hv nx ck es w hi hj hn hQ.Q).mono fun e w' ⟨h3, h4, h5⟩ => ⟨h3, ⟨h4, hQ.B.of_queue h1 h5, hQ.E.perm (sw_perm es a b hi hj)⟩, h5⟩

/-- what up and down leave -/
def Mended (q pl sv S be N : Nat) (hv : Value) (best : List Vl) (es : List Ent) (nx ck : Int) (w w' : World) : Prop :=
  ∃ es', es'.Perm es ∧ Heap (vof best) es' ∧ QAll w' q pl sv S be N hv best es' nx ck ∧ Kp (QF q pl hv) w w'
/-- between two rounds of up -/
def UpInv (q pl sv S be N : Nat) (hv : Value) (best : List Vl) (es : List Ent) (nx ck : Int) (w : World) (k : Nat) (es' : List Ent) (wr : World) : Prop :=
  k < es'.length ∧ es'.Perm es ∧ HUp (vof best) es' k ∧ QAll wr q pl sv S be N hv best es' nx ck ∧ Kp (QF q pl hv) w wr

set_option maxHeartbeats 1000000 in
theorem up_any (q pl sv S be N : Nat) (i : Int) (best : List Vl) (hv : Value) (es : List Ent) (nx ck : Int) (h0 : 0 ≤ i) (hi : i.toNat < es.length) (hn : es.length ≤ 1000) (hN : N ≤ 1000) (w : World)
    (hQ : QAll w q pl sv S be N hv best es nx ck) (hU : HUp (vof best) es i.toNat) :
    Calls Tryd.prog 68 #[PB q, .int .i64 i] w fun e w' => e = .returned (.tuple #[]) ∧ Mended q pl sv S be N hv best es nx ck w w' := by
  obtain ⟨i, rfl⟩ := Int.eq_ofNat_of_zero_le h0
  rw [Int.toNat_natCast] at hi hU
  have HI := hide (show UpInv q pl sv S be N hv best es nx ck w i es w from ⟨hi, List.Perm.refl _, hU, hQ, Kp.refl _ _⟩)
  clear hi hU hQ h0
  go_enter Tryd.func68, Tryd.ntmps68
  go_wp2_with fail
  go_loopw [1] (fun s1 wr => ∃ (k : Nat) (es' : List Ent), s1 = .int .i64 k ∧ UpInv q pl sv S be N hv best es nx ck w k es' wr) (fun s1 _ => (intOf s1).toNat)
  case atStart => exact ⟨i, es, rfl, HI.out⟩
  case round =>
    clear HI
    obtain ⟨k, es', rfl, hinv⟩ := hrel
    obtain ⟨hk, hp, hU, hQ, hK⟩ := hinv
    have hl : es'.length ≤ 1000 := by rw [hp.length_eq]; exact hn
    by_cases hk0 : 0 < k
    · have hpl : (k - 1) / 2 < es'.length := by omega
      obtain ⟨ek, hek⟩ : ∃ e, es'[k]? = some e := ⟨_, List.getElem?_eq_getElem hk⟩
      obtain ⟨ep, hep⟩ : ∃ e, es'[(k - 1) / 2]? = some e := ⟨_, List.getElem?_eq_getElem hpl⟩
      have e1 : (((k : Int) - 1) / 2).toNat = (k - 1) / 2 := by omega
      have hek' : es'[(k : Int).toNat]? = some ek := by rw [Int.toNat_natCast]; exact hek
      have hep' : es'[(((k : Int) - 1) / 2).toNat]? = some ep := by rw [e1]; exact hep
      rcases hb : bef (vof best) ek ep with _ | _
      · have HH := hide (show Mended q pl sv S be N hv best es nx ck w wr from ⟨es', hp, hU.done (fun _ ei' ep' h1 h2 => by rw [hek] at h1; rw [hep] at h2; injection h1 with h1; injection h2 with h2; subst h1; subst h2; exact LE.of_not_bef hb), hQ, hK⟩)
        have C1 := hide (before_int q pl sv S be N (k : Int) (((k : Int) - 1) / 2) best hv es' nx ck (by omega) (by omega) hek' hep' hl hN wr hQ hb)
        clear hb hek hep hek' hep' hQ hK hU hp e1
        go_wp2_with (go_at_call 71; refine C1.out.mono ?_; rintro e w' ⟨rfl, hb'⟩)
        go_end0
        refine ⟨rfl, ?_⟩
        obtain ⟨es2, a1, a2, a3, a4⟩ := HH.out
        exact ⟨es2, a1, a2, a3.below hb', a4.below hb'⟩
      · have C1 := hide (before_int q pl sv S be N (k : Int) (((k : Int) - 1) / 2) best hv es' nx ck (by omega) (by omega) hek' hep' hl hN wr hQ hb)
        have C2 := hide (fun (W : World) (hW : Below wr.heap.size wr W) => swap_int q pl sv S be N (k : Int) (((k : Int) - 1) / 2) best hv es' nx ck (by omega) (by omega) (by rw [Int.toNat_natCast]; exact hk) (by rw [e1]; exact hpl) hl W (hQ.below hW))
        have HH := hide (show ∀ W, QAll W q pl sv S be N hv best (sw es' k ((k - 1) / 2)) nx ck → Kp (QF q pl hv) w W → UpInv q pl sv S be N hv best es nx ck w ((k - 1) / 2) (sw es' k ((k - 1) / 2)) W from fun W h1 h2 =>
          ⟨by rw [sw_length]; exact hpl, (sw_perm es' k _ hk hpl).trans hp, hU.step hk0 hk (fun ei' ep' h1 h2 => by rw [hek] at h1; rw [hep] at h2; injection h1 with h1; injection h2 with h2; subst h1; subst h2; exact LE.of_bef hb), h1, h2⟩)
        have HK := hide hK
        have E1 := hide e1
        clear hb hek hep hek' hep' hQ hK hU hp e1
        go_wp2_with (first | (go_at_call 71; refine C1.out.mono ?_; rintro e w1 ⟨rfl, hb'⟩) | (go_at_call 70; refine (C2.out w1 hb').mono ?_; rintro e w2 ⟨rfl, hq2, hk2⟩))
        go_roundw
        case rel =>
          rw [E1.out, Int.toNat_natCast] at hq2
          exact ⟨(k - 1) / 2, _, by rw [show ((((k - 1) / 2 : Nat)) : Int) = ((k : Int) - 1) / 2 from by omega], HH.out _ hq2 ((HK.out.below hb').trans hk2)⟩
        case measure => simp [intOf]; omega
    · have h00 : k = 0 := by omega
      have HH := hide (show Mended q pl sv S be N hv best es nx ck w wr from ⟨es', hp, hU.done (fun h => absurd h (by omega)), hQ, hK⟩)
      clear h00 hQ hK hU hp
      go_wp2
      go_end0
      exact ⟨rfl, HH.out⟩
end Go.Proofs.YtnifpeamgoapmaaDoor
/- The queue's method down. -/
namespace Go.Proofs.YtnifpeamgoapmaaDoor
open Go Go.RowKit

theorem QRaw.slice {w : World} {q pl : Nat} {lf hv : Value} {es : List Ent} {f : Int → Option Int} {gm : Int → Nat} {nx ck : Int} (h : QRaw w q pl lf hv es f gm nx ck) : ∃ A c, hv = .slice A es.length c := by
  rcases h.row.2 with ⟨rfl, h0⟩ | ⟨g, cap, cur, rfl, _⟩
  · exact ⟨none, 0, by rw [h0]⟩
  · exact ⟨_, _, rfl⟩
theorem QAll.heap {w : World} {q pl sv S be N : Nat} {hv : Value} {best : List Vl} {es : List Ent} {nx ck : Int} (h : QAll w q pl sv S be N hv best es nx ck) : w.cell? ⟨q, 1, none⟩ = some hv := by
  obtain ⟨f, gm, h1, h2⟩ := h.Q.ex
  rw [h1.rec_.cell 1]; rfl

/-- between two rounds of down -/
structure DownInv (q pl sv S be N : Nat) (hv : Value) (best : List Vl) (es : List Ent) (nx ck : Int) (w : World) (k : Nat) (es' : List Ent) (wr : World) : Prop where
  lt : k < es'.length ∨ k = 0
  perm : es'.Perm es
  ord : HDown (vof best) es' k
  all : QAll wr q pl sv S be N hv best es' nx ck
  kp : Kp (QF q pl hv) w wr
/-- the search for the least: l is the least of k and of its children below m -/
structure LeastInv (best : List Vl) (es' : List Ent) (k l m : Nat) : Prop where
  lo : 2 * k + 1 ≤ m
  hi : m ≤ 2 * k + 3
  l_ : l = k ∨ (2 * k + 1 ≤ l ∧ l < m ∧ l < es'.length)
  self : ∀ el ek, es'[l]? = some el → es'[k]? = some ek → LE (vof best) el ek
  kids : ∀ (c : Nat) el ec, 2 * k + 1 ≤ c → c < m → es'[l]? = some el → es'[c]? = some ec → LE (vof best) el ec

theorem LeastInv.no {best : List Vl} {es' : List Ent} {k l m : Nat} (h : LeastInv best es' k l m) (h2 : m ≤ 2 * k + 2) {el em : Ent} (hl : es'[l]? = some el) (hm : es'[m]? = some em) (hb : bef (vof best) em el = false) : LeastInv best es' k l (m + 1) :=
  ⟨by have := h.lo; omega, by omega, by rcases h.l_ with h1 | h1 <;> omega, h.self, fun c el' ec h3 h4 h5 h6 => by
    by_cases hc : c = m
    · subst hc; rw [hl] at h5; rw [hm] at h6; injection h5 with h5; injection h6 with h6; subst h5; subst h6; exact LE.of_not_bef hb
    · exact h.kids c el' ec h3 (by omega) h5 h6⟩
theorem LeastInv.yes {best : List Vl} {es' : List Ent} {k l m : Nat} (h : LeastInv best es' k l m) (h2 : m ≤ 2 * k + 2) {el em : Ent} (hl : es'[l]? = some el) (hm : es'[m]? = some em) (hb : bef (vof best) em el = true) : LeastInv best es' k m (m + 1) := by
  have hle := LE.of_bef hb
  have hlt := (List.getElem?_eq_some_iff.1 hm).1
  have hlo := h.lo
  refine ⟨by omega, by omega, .inr ⟨by omega, by omega, hlt⟩, fun el' ek h3 h4 => ?_, fun c el' ec h3 h4 h5 h6 => ?_⟩
  · rw [hm] at h3; injection h3 with h3; subst h3
    exact hle.trans (h.self el ek hl h4)
  · rw [hm] at h5; injection h5 with h5; subst h5
    by_cases hc : c = m
    · subst hc; rw [hm] at h6; injection h6 with h6; subst h6; exact LE.refl _ _
    · exact hle.trans (h.kids c el ec h3 (by omega) hl h6)

set_option maxHeartbeats 2000000 in
theorem down_any (q pl sv S be N : Nat) (i : Int) (best : List Vl) (hv : Value) (es : List Ent) (nx ck : Int) (h0 : 0 ≤ i) (hi : i.toNat < es.length ∨ i = 0) (hn : es.length ≤ 1000) (hN : N ≤ 1000) (w : World)
    (hQ : QAll w q pl sv S be N hv best es nx ck) (hU : HDown (vof best) es i.toNat) :
    Calls Tryd.prog 69 #[PB q, .int .i64 i] w fun e w' => e = .returned (.tuple #[]) ∧ Mended q pl sv S be N hv best es nx ck w w' := by
  obtain ⟨i, rfl⟩ := Int.eq_ofNat_of_zero_le h0
  rw [Int.toNat_natCast] at hi hU
  have hi' : i < es.length ∨ i = 0 := by omega
  have HI := hide (show DownInv q pl sv S be N hv best es nx ck w i es w from ⟨hi', List.Perm.refl _, hU, hQ, Kp.refl _ _⟩)
  have hsl : ∃ A c, hv = .slice A es.length c := by obtain ⟨f, gm, h1, h2⟩ := hQ.Q.ex; exact h1.slice
  clear hi hi' hU hQ h0
  obtain ⟨A, cap, hv'⟩ := hsl
  subst hv'
  go_enter Tryd.func69, Tryd.ntmps69
  go_wp2_with fail
  go_loopw [1] (fun s1 wr => ∃ (k : Nat) (es' : List Ent), s1 = .int .i64 k ∧ DownInv q pl sv S be N (.slice A es.length cap) best es nx ck w k es' wr) (fun s1 _ => es.length - (intOf s1).toNat)
  case atStart => exact ⟨i, es, rfl, HI.out⟩
  case round =>
    clear HI
    obtain ⟨k, es', rfl, hinv⟩ := hrel
    obtain ⟨wo, rfl⟩ : ∃ wo : World, wo = wr := ⟨_, rfl⟩
    have hle : es'.length = es.length := hinv.perm.length_eq
    have hk1 : k ≤ 1000 := by have := hinv.lt; omega
    have HV := hide hinv
    have HLE := hide hle
    clear hinv hle
    go_wp2_with fail
    go_loopw [4, 5] (fun s4 s5 wr => ∃ (l m : Nat), s4 = .int .i64 l ∧ s5 = .int .i64 m ∧ LeastInv best es' k l m ∧ Below wo.heap.size wo wr) (fun _ s5 _ => 2 * k + 3 - (intOf s5).toNat)
    case atStart => exact ⟨k, 2 * k + 1, by go_num, by go_num, ⟨by omega, by omega, .inl rfl, fun el ek h1 h2 => by rw [h1] at h2; injection h2 with h2; subst h2; exact LE.refl _ _, fun c _ _ h1 h2 => by omega⟩, Below.refl _ _⟩
    case round =>
      obtain ⟨l, m, rfl, rfl, hL, hbel⟩ := hrel
      have hm1 := hL.lo
      have hm2 := hL.hi
      have hall := HV.out.all.below hbel
      have hh := hall.heap
      have hlen : es'.length ≤ 1000 := by rw [HLE.out]; exact hn
      by_cases hc : m ≤ 2 * k + 2 ∧ m < es.length
      · obtain ⟨hc1, hc2⟩ := hc
        have hml : m < es'.length := by rw [HLE.out]; exact hc2
        have hll : l < es'.length := by rcases hL.l_ with h | h <;> omega
        obtain ⟨el, hel⟩ : ∃ e, es'[l]? = some e := ⟨_, List.getElem?_eq_getElem hll⟩
        obtain ⟨em, hem⟩ : ∃ e, es'[m]? = some e := ⟨_, List.getElem?_eq_getElem hml⟩
        rcases hb : bef (vof best) em el with _ | _
        · have HN := hide (hL.no hc1 hel hem hb)
          have C1 := hide (before_int q pl sv S be N (m : Int) (l : Int) best (.slice A es.length cap) es' nx ck (by omega) (by omega) (by rw [Int.toNat_natCast]; exact hem) (by rw [Int.toNat_natCast]; exact hel) hlen hN wr hall hb)
          have HB := hide hbel
          clear hb hel hem hL hall hbel hml hll
          go_wp2_with (go_at_call 71; refine C1.out.mono ?_; rintro e w' ⟨rfl, hb'⟩)
          go_roundw
          case rel => exact ⟨l, m + 1, rfl, by go_num, HN.out, below_then' HB.out HB.out.size hb'⟩
          case measure => simp [intOf]; omega
        · have HN := hide (hL.yes hc1 hel hem hb)
          have C1 := hide (before_int q pl sv S be N (m : Int) (l : Int) best (.slice A es.length cap) es' nx ck (by omega) (by omega) (by rw [Int.toNat_natCast]; exact hem) (by rw [Int.toNat_natCast]; exact hel) hlen hN wr hall hb)
          have HB := hide hbel
          clear hb hel hem hL hall hbel hml hll
          go_wp2_with (go_at_call 71; refine C1.out.mono ?_; rintro e w' ⟨rfl, hb'⟩)
          go_roundw
          case rel => exact ⟨m, m + 1, rfl, by go_num, HN.out, below_then' HB.out HB.out.size hb'⟩
          case measure => simp [intOf]; omega
      · have hkids : ∀ (c : Nat) el ec, 0 < c → (c - 1) / 2 = k → es'[l]? = some el → es'[c]? = some ec → LE (vof best) el ec := fun c el ec h1 h2 h3 h4 => by
          have hcl := (List.getElem?_eq_some_iff.1 h4).1
          have hee := HLE.out
          exact hL.kids c el ec (by omega) (by omega) h3 h4
        have hkp : Kp (QF q pl (.slice A es.length cap)) w wr := HV.out.kp.below hbel
        by_cases hlk : l = k
        · subst hlk
          have HH := hide (show Mended q pl sv S be N (.slice A es.length cap) best es nx ck w wr from ⟨es', HV.out.perm, HV.out.ord.done (fun c ei ec h1 h2 h3 h4 => hkids c ei ec h1 h2 h3 h4), hall, hkp⟩)
          clear hkids hkp hall hL hbel
          rcases (show ¬ m ≤ 2 * l + 2 ∨ (m ≤ 2 * l + 2 ∧ ¬ m < es.length) by omega) with hx | ⟨hx, hy⟩
          all_goals
            clear hc
            go_wp2
            refine bodyPost_ret (results_none rfl _ _ _) rfl ?_
            exact ⟨rfl, HH.out⟩
        · have hl0 : 2 * k + 1 ≤ l ∧ l < es'.length ∧ l ≤ 2 * k + 2 := by rcases hL.l_ with h | h <;> omega
          obtain ⟨hl1, hl2, hl3⟩ := hl0
          have hkl : k < es'.length := by omega
          have C2 := hide (swap_int q pl sv S be N (k : Int) (l : Int) best (.slice A es.length cap) es' nx ck (by omega) (by omega) (by rw [Int.toNat_natCast]; exact hkl) (by rw [Int.toNat_natCast]; exact hl2) hlen wr hall)
          have HH := hide (show ∀ W, QAll W q pl sv S be N (.slice A es.length cap) best (sw es' k l) nx ck → Kp (QF q pl (.slice A es.length cap)) wr W → DownInv q pl sv S be N (.slice A es.length cap) best es nx ck w l (sw es' k l) W from fun W h1 h2 =>
            ⟨.inl (by rw [sw_length]; exact hl2), (sw_perm es' k l hkl hl2).trans HV.out.perm, HV.out.ord.step (by omega) (by omega) hl2 (fun ei el h3 h4 => hL.self el ei h4 h3) (fun c ec el h3 h4 h5 h6 => hkids c el ec h3 h4 h6 h5), h1, hkp.trans h2⟩)
          have hle2 : l < es.length := by rw [← HLE.out]; exact hl2
          have hne : ((l : Int) == (k : Int)) = false := by rw [beq_eq_false_iff_ne]; omega
          clear hkids hkp hall hL hbel
          rcases (show ¬ m ≤ 2 * k + 2 ∨ (m ≤ 2 * k + 2 ∧ ¬ m < es.length) by omega) with hx | ⟨hx, hy⟩
          all_goals
            clear hc
            go_wp2_with (go_at_call 70; refine C2.out.mono ?_; rintro e w2 ⟨rfl, hq2, hk2⟩)
            go_roundw
            case rel =>
              rw [Int.toNat_natCast, Int.toNat_natCast] at hq2
              exact ⟨l, _, rfl, HH.out _ hq2 hk2⟩
            case measure => simp [intOf]; omega
end Go.Proofs.YtnifpeamgoapmaaDoor
/- The queue's methods New and Push. -/
namespace Go.Proofs.YtnifpeamgoapmaaDoor
open Go Go.RowKit

theorem info114 : (Tryd.prog.info? 114).map (fun i => (i.zero, i.size, i.bytes)) = some (some (.agg #[.int .i64 0, .int .i64 0, .int .i64 0]), 3, 24) := by kernel_rfl

/-- pqueue.New -/
def NewPost (sv : Nat) (w : World) (e : Ending) (w' : World) : Prop :=
  ∃ q pl, e = .returned (PB q) ∧ QS w' q pl (lessF sv) (.slice none 0 0) [] 0 0 ∧ Below w.heap.size w w' ∧ w.heap.size ≤ q ∧ w.heap.size ≤ pl
theorem new_any (sv : Nat) (w : World) : Calls Tryd.prog 43 #[lessF sv] w (NewPost sv w) := by
  have hmm := @run_makeMap Tryd.prog
  go_enter Tryd.func43, Tryd.ntmps43
  go_wp2
  go_ret
  refine ⟨_, _, rfl, ⟨_, _, ⟨Blk.new2 _ _ _ _, World.ownsRow_nil _ _ _ _, (IMap.made w).alloc _⟩, ⟨fun i e h => by simp at h, fun k v h => by simp at h⟩⟩, ?_, by omega, Nat.le_refl _⟩
  exact (((Below.refl _ _).alloc (Nat.le_refl _) _).alloc (by simp) _)

theorem own_set_blk {w : World} {base n q : Nat} {e t : TypeId} {size : Nat} {v : Value} {xs : List Value} {cs : Array Value} (h : w.ownsRow base e size v n xs) (hq : Blk w q t cs) (ht : t ≠ e) (i : Nat) (u : Value) : (w.setCell ⟨q, i, none⟩ u).ownsRow base e size v n xs := by
  refine World.ownsRow.kept h (grown_set (World.grownBy.refl w (some q)) i u) ?_
  rcases h.2 with ⟨rfl, _⟩ | ⟨g, cap, cur, rfl, _, hh, _⟩
  · exact .inl rfl
  · right
    intro he
    simp [Value.ownBlock] at he
    exact Blk.ne_ (t' := e) hq hh ht he.symm
theorem IMap.set_blk {w : World} {b q : Nat} {f : Int → Option Int} {g : Int → Nat} {t : TypeId} {cs : Array Value} (h : IMap w b f g) (hq : Blk w q t cs) (i : Nat) (u : Value) : IMap (w.setCell ⟨q, i, none⟩ u) b f g :=
  h.same (Below.heap_setCell w _ u b (fun e => h.ne_blk hq e.symm))
theorem IMap.grown {w w' : World} {b : Nat} {f : Int → Option Int} {g : Int → Nat} {row : Option Nat} (h : IMap w b f g) (hg : w.grownBy w' row) (hne : some b ≠ row) : IMap w' b f g := h.same (hg.block b h.lt hne)

theorem ecells_snoc (es : List Ent) (e : Ent) : ecells (es ++ [e]) = ecells es ++ [I e.x, I e.h, I e.t] := by simp [ecells]
theorem PlOK.push {es : List Ent} {f : Int → Option Int} (h : PlOK es f) (e : Ent) (hf : f e.h = none) : PlOK (es ++ [e]) (fun y => if y = e.h then some (es.length : Int) else f y) := by
  refine ⟨fun i e' hi => ?_, fun k v hk => ?_⟩
  · by_cases hl : i < es.length
    · rw [List.getElem?_append_left hl] at hi
      have h1 := h.at_ i e' hi
      have hne : e'.h ≠ e.h := fun he => by rw [he, hf] at h1; cases h1
      simp [hne, h1]
    · rw [List.getElem?_append_right (by omega)] at hi
      obtain ⟨hlt, hi2⟩ := List.getElem?_eq_some_iff.1 hi
      simp at hlt
      have h0 : i = es.length := by omega
      subst h0
      simp at hi
      subst hi
      simp
  · by_cases hke : k = e.h
    · exact ⟨e, by simp, hke.symm⟩
    · simp [hke] at hk
      obtain ⟨e', he', hh⟩ := h.only k v hk
      exact ⟨e', by simp [he'], hh⟩

/-- what Push leaves -/
def Pushed (q pl sv S be N : Nat) (hv : Value) (best : List Vl) (es : List Ent) (nx x : Int) (w : World) (e : Ending) (w' : World) : Prop :=
  ∃ hv' es' ck', e = .returned (.int .i64 nx) ∧ (es'.map fun e => (e.x, e.h)).Perm ((x, nx) :: es.map fun e => (e.x, e.h)) ∧ Heap (vof best) es' ∧ QAll w' q pl sv S be N hv' best es' (nx + 1) ck' ∧ Kp (QF q pl hv) w w' ∧
    (hv'.ownBlock = hv.ownBlock ∨ ∃ g, hv'.ownBlock = some g ∧ w.heap.size ≤ g)

set_option maxHeartbeats 2000000 in
theorem push_any (q pl sv S be N : Nat) (x : Int) (best : List Vl) (hv : Value) (es : List Ent) (nx ck : Int) (hx0 : 0 ≤ x) (hx1 : x < (N : Int)) (hn : es.length ≤ 900) (hN : N ≤ 1000) (hnx0 : 0 ≤ nx) (hnx1 : nx ≤ 900) (hold : ∀ e ∈ es, e.h < nx) (w : World)
    (hQ : QAll w q pl sv S be N hv best es nx ck) (hH : Heap (vof best) es) :
    Calls Tryd.prog 58 #[PB q, .int .i64 x] w (Pushed q pl sv S be N hv best es nx x w) := by
  obtain ⟨f, gm, hR, hP⟩ := hQ.Q.ex
  obtain ⟨A, cap, hve⟩ := hR.slice
  subst hve
  obtain ⟨i0, hi, hz0, hz1, hz2⟩ := info_parts info114
  have h1 := hR.rec_.cell 1
  have h3 := hR.rec_.cell 3
  simp at h1 h3
  have l1 := fun x : LW w => x.cell h1
  have l3 := fun x : LW w => x.cell h3
  have HQ := hide hQ
  have HR := hide hR
  have HP := hide hP
  have HH := hide hH
  have HO := hide hold
  clear hR hP hQ hH hold
  go_enter Tryd.func58, Tryd.ntmps58
  go_wp2_with fail
  refine wp_region_later (by kernel_rfl) (by kernel_rfl) ?_
  repeat (go_big_quiet_step (fail))
  refine wpQuiet_nil ?_
  rintro W ⟨⟨_, hW⟩, rfl⟩
  clear h1 h3 l1 l3
  have HR1 := hide (HR.out.below hW)
  have HQ1 := hide (HQ.out.below hW)
  have h1 := HR1.out.rec_.cell 1
  have h2 := HR1.out.rec_.cell 2
  have h3 := HR1.out.rec_.cell 3
  have h4 := HR1.out.rec_.cell 4
  simp at h1 h2 h3 h4
  have HW := hide (Kp.of_below (F := QF q pl (.slice A es.length cap)) hW)
  have hsz := hW.size
  have al1 := fun o => (World.cell?_alloc_lt W o _ (World.block_lt_of_cell? W _ h1)).trans h1
  have al4 := fun o => (World.cell?_alloc_lt W o _ (World.block_lt_of_cell? W _ h4)).trans h4
  clear hW HR
  go_wp2_with fail
  go_cut [] (fun wx => ∃ g cap', Blk wx q 104 #[lessF sv, .slice (some ⟨g, 0, none⟩) (es.length + 1) cap', .map (some pl), I nx, I ck] ∧ wx.ownsRow 0 114 3 (.slice (some ⟨g, 0, none⟩) (es.length + 1) cap') (es.length + 1) (ecells es ++ [I x, I nx, I ck]) ∧
    IMap wx pl f gm ∧ Kp (QF q pl (.slice A es.length cap)) W wx ∧ ((Value.slice A es.length cap).ownBlock = some g ∨ W.heap.size ≤ g))
  case first =>
    have hnq : some q ≠ (Value.slice A es.length cap).ownBlock := by
      have hh := HR1.out
      rcases hh.row.2 with ⟨e, _⟩ | ⟨g, cap, cur, e, h0, hh', r⟩
      · rw [e]; simp [Value.ownBlock]
      · rw [e]; intro he; simp [Value.ownBlock] at he; exact Blk.ne_ (t' := 114) hh.rec_ hh' (by decide) he
    have hnp : some pl ≠ (Value.slice A es.length cap).ownBlock := by
      have hh := HR1.out
      rcases hh.row.2 with ⟨e, _⟩ | ⟨g, cap, cur, e, h0, hh', r⟩
      · rw [e]; simp [Value.ownBlock]
      · rw [e]; intro he; simp [Value.ownBlock] at he; exact hh.map.ne_blk hh' he.symm
    have HNQ := hide hnq
    have HNP := hide hnp
    clear hnq hnp
    go_region_law ((refine step_append_lies _ (by rfl) _ _ _ (by rfl) 0 114 i0 _ 3 24 Tryd.underlying102 hi hz0 hz1 hz2 (by rfl) (by omega) (.slice A es.length cap) es.length (ecells es) (by rfl) (own_drew (HR1.out.row.alloc _)) ⟨W.heap.size, 0, none⟩ 1 1 [I x, I nx, I ck] (by rfl) (by rfl) (World.news_of_block (heap_alloc_new W _)) (by simp [Value.oneCell']) (by omega) (by simp only [maxLen]; omega) (by omega) (by omega) (W.heap.size + 1) (by simp) ?_; intro g cap1 w1 hown1 hgrow hat hlt; have hq1 := (HR1.out.rec_.alloc _).drew.grown hgrow HNQ.out; have c1 := hq1.cell 1; have f1 := hq1.frozen 1; simp at c1))
    all_goals
      go_wp2_with fail
      go_meet
      refine ⟨g, cap1, hq1.set_ 1 _, own_set_blk hown1 hq1 (by decide) _ _, (((HR1.out.map.alloc _).drew.grown hgrow HNP.out).set_blk hq1 _ _), ?_, ?_⟩
      · exact ((((Kp.refl (QF q pl (.slice A es.length cap)) W).alloc _).drew).grown hgrow (fun k hk => .inl (.inr (.inr hk.symm)))).setCell (.inl (.inl rfl)) _
      · rcases hat with h | h
        · exact .inl h
        · right; omega
  case rest =>
    obtain ⟨g, cap', hq, hrow, hm, hkp, hat⟩ := hcut
    clear h1 h2 h3 h4 al1 al4
    have hfn : f nx = none := by
      cases hf : f nx with
      | none => rfl
      | some v =>
        obtain ⟨e, he, hen⟩ := HP.out.only nx v hf
        have := HO.out e he
        omega
    obtain ⟨w2, g2, s2, gr2, hm2⟩ := hm.put_new und101 Tryd.underlying3 nx (es.length : Int) hfn
    have h2 := hq.cell 2
    have hqp := hm.ne_blk hq
    have hq2 := hq.grown gr2 (by simpa using hqp)
    have hrow2 : w2.ownsRow 0 114 3 (.slice (some ⟨g, 0, none⟩) (es.length + 1) cap') (es.length + 1) (ecells es ++ [I x, I nx, I ck]) := by
      refine World.ownsRow.kept hrow gr2 (.inr ?_)
      intro he
      simp [Value.ownBlock] at he
      rcases hrow.2 with ⟨e, _⟩ | ⟨g', c', cur, e, _, hh, _⟩
      · cases e
      · injection e with e1; injection e1 with e1; injection e1 with e1; subst e1; exact hm.ne_blk hh he
    have h3 := hq2.cell 3
    have h4 := hq2.cell 4
    have f3 := hq2.frozen 3
    have f4 := hq2.frozen 4
    simp at h2 h3 h4
    go_wp2_with fail
    go_region
    go_wp2_with fail
    have hq4 := ((hq2.set_ 3 (I (nx + 1))).set_ 4 (I (wrap64 (ck + 1)))).drew
    have hrow4 := own_drew (own_set_blk (own_set_blk hrow2 hq2 (by decide) 3 (I (nx + 1))) (hq2.set_ 3 (I (nx + 1))) (by decide) 4 (I (wrap64 (ck + 1))))
    have hm4 := ((hm2.set_blk hq2 3 (I (nx + 1))).set_blk (hq2.set_ 3 (I (nx + 1))) 4 (I (wrap64 (ck + 1)))).drew
    have hk4 := (((((HW.out.trans hkp).grown gr2 (fun k hk => .inl (QF.pl q pl _ k hk))).setCell (p := ⟨q, 3, none⟩) (.inl (.inl rfl)) (I (nx + 1))).setCell (p := ⟨q, 4, none⟩) (.inl (.inl rfl)) (I (wrap64 (ck + 1)))).drew)
    have hB4 : BestAt ((w2.setCell ⟨q, 3, none⟩ (I (nx + 1))).setCell ⟨q, 4, none⟩ (I (wrap64 (ck + 1)))).drew sv S be N best := by
      obtain ⟨f', gm', hr', _⟩ := HQ.out.Q.ex
      exact HQ.out.B.of_queue hr' hk4
    have hE4 : EOK (es ++ [⟨x, nx, ck⟩]) N := by
      intro e he
      rcases List.mem_append.1 he with h | h
      · exact HQ.out.E e h
      · simp only [List.mem_singleton] at h; subst h; exact ⟨hx0, hx1⟩
    have hA : QAll ((w2.setCell ⟨q, 3, none⟩ (I (nx + 1))).setCell ⟨q, 4, none⟩ (I (wrap64 (ck + 1)))).drew q pl sv S be N (.slice (some ⟨g, 0, none⟩) (es.length + 1) cap') best (es ++ [⟨x, nx, ck⟩]) (nx + 1) (wrap64 (ck + 1)) :=
      ⟨⟨_, _, ⟨hq4, by rw [ecells_snoc, List.length_append]; exact hrow4, hm4⟩, HP.out.push ⟨x, nx, ck⟩ hfn⟩, hB4, hE4⟩
    refine (up_any q pl sv S be N (es.length : Int) best _ (es ++ [⟨x, nx, ck⟩]) (nx + 1) (wrap64 (ck + 1)) (by omega) (by simp) (by simp; omega) hN _ hA (by rw [Int.toNat_natCast]; exact HH.out.push _)).mono ?_
    rintro e w5 ⟨rfl, es', hp', hh', ha', hk'⟩
    clear hA hE4 hB4 hm4 hrow4 hq4 h2 h3 h4 f3 f4
    go_wp2
    go_ret
    refine ⟨_, es', _, rfl, ?_, hh', ha', hk4.trans' hk' ?_, ?_⟩
    · exact ((hp'.map _).trans (by rw [List.map_append]; exact List.perm_append_comm))
    · rintro i hi (h | h | h)
      · exact .inl h
      · exact .inr (.inl h)
      · simp [Value.ownBlock] at h
        subst h
        rcases hat with h | h
        · exact .inr (.inr h.symm)
        · omega
    · rcases hat with h | h
      · left; rw [h]; rfl
      · exact .inr ⟨g, rfl, by omega⟩
end Go.Proofs.YtnifpeamgoapmaaDoor
