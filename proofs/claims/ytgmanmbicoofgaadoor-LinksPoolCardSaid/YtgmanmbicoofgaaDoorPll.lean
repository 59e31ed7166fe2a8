/- LinksPool: the walk. -/
import Derived.Test.YtgmanmbicoofgaaDoorPla
import Derived.Test.YtgmanmbicoofgaaDoorPlb
import Derived.Test.YtgmanmbicoofgaaDoorApl
import Derived.Test.YtgmanmbicoofgaaDoorErP
import Derived.Test.YtgmanmbicoofgaaDoorWk2
import Derived.Deep.RegionHeld3
namespace Go.Proofs.YtgmanmbicoofgaaDoor
set_option linter.unusedVariables false
set_option linter.unusedSimpArgs false
namespace Klg
open Go.RowKit Mem Err Aps
theorem runP_code : ∀ (xs out : List Lg), (runP out xs).1 = 0 ∨ (runP out xs).1 = 2 ∨ (runP out xs).1 = 5 ∨ (runP out xs).1 = 9 ∨ (runP out xs).1 = 16
  | [], out => by
    unfold runP
    split
    · simp
    · split <;> simp
  | x :: xs, out => by
    unfold runP
    split
    · simp
    · split
      · exact runP_code xs _
      · split
        · simp
        · exact runP_code xs _
theorem runP_len : ∀ (xs out : List Lg), (runP out xs).2.length ≤ out.length + xs.length
  | [], out => by
    unfold runP
    split
    · simp
    · split <;> simp
  | x :: xs, out => by
    unfold runP
    split
    · simp
    · split
      · have := runP_len xs (out ++ [x])
        simp at this ⊢
        omega
      · split
        · simp
        · rename_i j _ _
          have := runP_len xs (addq out j x.d)
          rw [addq_length] at this
          simp
          omega
theorem plainP (k : Int) (hk : k = 0 ∨ k = 2 ∨ k = 5 ∨ k = 9 ∨ k = 16) (w : World) (hg : Laid w) : Calls Tryd.prog 23 #[errP k, .int .i64 k] w fun e w' => e = .returned (.bool true) ∧ Below w.heap.size w w' := by
  rcases hk with rfl | rfl | rfl | rfl | rfl
  · exact plain_nil 0 w
  · exact plain_err 87 (.agg #[.int .i64 2]) 2 2 w (isErr_wrong 2) (by decide) (by decide) hg
  · exact plain_err 87 (.agg #[.int .i64 5]) 5 5 w (isErr_wrong 5) (by decide) (by decide) hg
  · exact plain_err 87 (.agg #[.int .i64 9]) 9 9 w (isErr_wrong 9) (by decide) (by decide) hg
  · exact plain_err 87 (.agg #[.int .i64 16]) 16 16 w (isErr_wrong 16) (by decide) (by decide) hg
theorem own_rdg {w : World} {base : Nat} {v : Value} {L : List Lg} (h : OwnG w base v L) : ∃ A c, v = .slice A L.length c ∧ RdLg w (fun k => v.ownBlock = some k) A L := by
  obtain ⟨A, c, e, _, hr⟩ := RdV.of_own h
  exact ⟨A, c, e, hr⟩
theorem apart_two (wb wm W : World) (hbm : wb.heap.size ≤ wm.heap.size) (v1 v2 : Value) (L : List Lg) (h1 : OwnG W wb.heap.size v1 L) (h1l : ∀ k, v1.ownBlock = some k → k < wm.heap.size) (h2 : OwnG W wm.heap.size v2 L)
    (hL : L.length ≤ 1000000) (hbW : wb.heap.size ≤ W.heap.size) :
    Calls Tryd.prog 25 #[.slice (some ⟨W.heap.size, 0, none⟩) 2 2] (W.alloc (.cells #[v1, v2] 43)) fun e w' => e = .returned (.bool true) ∧ Keep (fun k => v1.ownBlock = some k ∨ v2.ownBlock = some k) (W.alloc (.cells #[v1, v2] 43)) w' := by
  have hr := Aps.rd_lit W [v1, v2] 1 2 43 rfl
  have hO : ∀ b, Tch (two_ v1 v2) 2 b → ¬ b = W.heap.size := by
    intro b h e
    subst e
    rcases two_tch h with h | h
    · have := own_lt h1 _ h
      omega
    · have := own_lt h2 _ h
      omega
  refine (apart_in wb.heap.size 2 _ 2 (two_ v1 v2) (fun _ => L.length) (fun b => b = W.heap.size) _ hr (by simp; omega) ?_ (two_fst fun b h3 h4 => by have := h1l b h3; have := own_ge h2 b h4; omega) hO (by omega) (fun _ => by omega)).mono ?_
  · intro j hj
    have hc : j = 0 ∨ j = 1 := by omega
    rcases hc with rfl | rfl
    · exact ⟨_, World.ownsRow.alloc h1 _⟩
    · exact ⟨_, World.ownsRow.alloc (own_rebase h2 (base' := wb.heap.size) (fun k hk => by have := own_ge h2 k hk; omega)) _⟩
  · rintro e w' ⟨rfl, hk⟩
    exact ⟨rfl, hk.mono (fun i _ h => two_tch h)⟩
/-- The list of what was lent, so far. -/
structure Ins (wr : World) (base : Nat) (v : Value) (rows : List (List Lg)) (i : Nat) (Vs : List Value) : Prop where
  own : wr.ownsRow base 43 1 v i Vs
  lent : ∀ j (hj : j < i) (hr : j < rows.length), ∃ g c, Vs[j]? = some (.slice (some ⟨g, 0, none⟩) rows[j].length c) ∧ Lent wr base g rows[j].length c rows[j]
theorem Ins.keep {wr w' : World} {base : Nat} {v : Value} {rows : List (List Lg)} {i : Nat} {Vs : List Value} (h : Ins wr base v rows i Vs) {S : Nat → Prop} (hk : Keep S wr w') (hS : ∀ k, base ≤ k → k < wr.heap.size → ¬ S k) : Ins w' base v rows i Vs :=
  ⟨hk.own h.own (fun k hk' => hS k (own_ge h.own k hk') (own_lt h.own k hk')), fun j hj hr => by
    obtain ⟨g, c, e, hl⟩ := h.lent j hj hr
    exact ⟨g, c, e, hl.keep hk (hS g hl.ge (own_lt hl.own g rfl))⟩⟩
theorem Ins.below {wr w' : World} {base : Nat} {v : Value} {rows : List (List Lg)} {i : Nat} {Vs : List Value} (h : Ins wr base v rows i Vs) (hb : Below wr.heap.size wr w') : Ins w' base v rows i Vs :=
  h.keep (Keep.of_below hb (fun k => ¬ k < wr.heap.size)) (fun k _ hk h => h hk)
theorem Ins.next {wr wx w3 : World} {base : Nat} {v v2 : Value} {rows : List (List Lg)} {i g c : Nat} {Vs : List Value} (h : Ins wx base v rows i Vs) (hi : i < rows.length) (hl : Lent wx base g rows[i].length c rows[i])
    (ho : w3.ownsRow base 43 1 v2 (i + 1) (Vs ++ [.slice (some ⟨g, 0, none⟩) rows[i].length c])) (hg : wx.grownBy w3 v.ownBlock) : Ins w3 base v2 rows (i + 1) (Vs ++ [.slice (some ⟨g, 0, none⟩) rows[i].length c]) := by
  have hk := Keep.of_grown hg
  have hlen : Vs.length = i := by have := h.own.1; simpa using this
  have hne : 89 ≠ 43 := by decide
  refine ⟨ho, fun j hj hr => ?_⟩
  rcases Nat.lt_or_ge j i with h1 | h1
  · obtain ⟨g', c', e, hl'⟩ := h.lent j h1 hr
    exact ⟨g', c', by rw [List.getElem?_append_left (by omega)]; exact e, hl'.keep hk (own_type_ne hl'.own h.own hne rfl)⟩
  · obtain rfl : j = i := by omega
    exact ⟨g, c, by rw [List.getElem?_append_right (by omega)]; simp [hlen], hl.keep hk (own_type_ne hl.own h.own hne rfl)⟩
theorem Ins.rd {wr : World} {base : Nat} {v : Value} {rows : List (List Lg)} {Vs : List Value} (h : Ins wr base v rows rows.length Vs) : ∃ A c, v = .slice A rows.length c ∧ RdLL wr (fun k => k < wr.heap.size) A rows := by
  obtain ⟨A, c, e, hc, hr⟩ := RdV.of_own h.own
  have hlen : Vs.length = rows.length := by have := h.own.1; simpa using this
  refine ⟨A, c, e, fun j => Vs.getD j undef, ?_, fun j hj => ?_⟩
  · have e2 : (List.range rows.length).map (fun j => Vs.getD j undef) = Vs := by
      apply List.ext_getElem
      · simp [hlen]
      · intro n h1 h2
        simp [List.getD_eq_getElem?_getD, List.getElem?_eq_getElem h2]
    rw [e2]
    exact hr.mono fun k hk => own_lt h.own k hk
  · obtain ⟨g, c', e2, hl⟩ := h.lent j hj hj
    refine ⟨_, c', by simp only [List.getD_eq_getElem?_getD, e2]; rfl, by have := hl.cap; omega, hl.rd.mono fun k hk => ?_⟩
    subst hk
    exact own_lt hl.own k rfl
theorem Ins.at_ {wr : World} {base : Nat} {A : Option Addr} {c : Nat} {rows : List (List Lg)} {Vs : List Value} (h : Ins wr base (.slice A rows.length c) rows rows.length Vs) {i : Nat} (hi : i < rows.length) :
    ∃ ad g c, A = some ad ∧ base ≤ (ad.add i).block ∧ (ad.add i).block < wr.heap.size ∧ wr.cell? (ad.add i) = some (.slice (some ⟨g, 0, none⟩) rows[i].length c) ∧ Lent wr base g rows[i].length c rows[i] := by
  obtain ⟨A', c', e, hc, hr⟩ := RdV.of_own h.own
  injection e with e1
  subst e1
  obtain ⟨ad, e2, hb, hcl⟩ := hr.2 (by omega)
  obtain ⟨g, c2, e3, hl⟩ := h.lent i hi hi
  refine ⟨ad, g, c2, e2, ?_, ?_, hcl i _ e3, hl⟩
  · rw [block_of_add]
    exact own_ge h.own _ hb
  · rw [block_of_add]
    exact own_lt h.own _ hb
set_option maxHeartbeats 8000000 in
set_option maxRecDepth 100000 in
theorem linksPool_any (A : Option Addr) (K c : Nat) (rows : List (List Lg)) (w : World) (hg : Laid w) (hK : K = rows.length) (hKb : K ≤ 281474976710656) (hr : RdLL w (fun k => k < w.heap.size) A rows) (hgd : ∀ r ∈ rows, ∀ p ∈ r, p.Good) (hrow : ∀ r ∈ rows, r.length ≤ 281474976710656) :
    Calls Tryd.prog 5 #[.slice A K c] w fun e w' => e = .returned (.bool true) ∧ Below w.heap.size w w' := by
  have HG := Held.mk hg
  have HK := Held.mk hK
  have HGd := Held.mk hgd
  have HRo := Held.mk hrow
  have HR : Held (∀ W, Below w.heap.size w W → RdLL W (fun k => k < w.heap.size) A rows) := ⟨fun W hB => hr.keep (Keep.of_below hB (fun k => ¬ k < w.heap.size)) (fun k h h' => h' h)⟩
  have hKI : (K : Int) ≤ 281474976710656 := by omega
  clear hg hgd hrow hr hK
  go_enter Tryd.func5, Tryd.ntmps5
  go_wp2_with fail
  go_loopw [3, 4] (fun a i wr => ∃ (k s : Nat), i = .int .i64 k ∧ k ≤ K ∧ a = .int .i64 s ∧ s ≤ 281474976810657 ∧ Held (s = k + (rows.take k).flatten.length) ∧ w = wr) (fun _ i _ => K - (intOf i).toNat)
  case atStart => exact ⟨0, 0, rfl, Nat.zero_le _, rfl, by omega, ⟨by simp⟩, rfl⟩
  case round =>
    obtain ⟨k, s, rfl, hk, rfl, hs, HSm, rfl⟩ := hrel
    by_cases hlt : k < K
    · have i1 : decide ((k : Int) < (K : Int)) = true := decide_eq_true (by omega)
      have j1 : 0 ≤ (k : Int) ∧ (k : Int) < (K : Int) := ⟨by omega, by omega⟩
      by_cases hm : s ≤ 100000
      · have i2 : decide ((s : Int) ≤ 100000) = true := decide_eq_true (by omega)
        have hkr : k < rows.length := by have := HK.out; omega
        obtain ⟨ad, Ai, ci, rfl, hab, hcell, hci, hri⟩ := (HR.out w (Below.refl _ _)).at_ hkr
        have hrl := HRo.out _ (List.getElem_mem hkr)
        have HSn : Held (s + 1 + rows[k].length = k + 1 + (rows.take (k + 1)).flatten.length) := ⟨by
          rw [List.take_succ_eq_append_getElem hkr, List.flatten_append, List.length_append, HSm.out]
          simp
          omega⟩
        generalize rows[k].length = n at *
        have hnI : (n : Int) ≤ 281474976710656 := by omega
        go_wp2_with fail
        go_roundw
        case rel => exact ⟨k + 1, s + 1 + n, by go_num, by omega, by go_num, by omega, HSn, trivial⟩
        case measure => simp [intOf] <;> omega
      · have i2 : decide ((s : Int) ≤ 100000) = false := decide_eq_false (by omega)
        have i3 : decide ((100000 : Int) < (s : Int)) = true := decide_eq_true (by omega)
        go_wp2_with fail
        refine (Ord.works_any w).mono ?_
        rintro e w1 ⟨rfl, hb1⟩
        have HB1 := Held.mk hb1
        clear hb1
        go_wp2_with fail
        go_ret
        exact ⟨rfl, HB1.out⟩
    · obtain rfl : k = K := by omega
      have i1 : decide ((k : Int) < (k : Int)) = false := decide_eq_false (by omega)
      rw [List.take_of_length_le (by have := HK.out; omega)] at HSm
      by_cases hm : s ≤ 100000
      · have i3 : decide ((100000 : Int) < (s : Int)) = false := decide_eq_false (by omega)
        have hn : rows.length + rows.flatten.length ≤ 1000000 := by have := HSm.out; have := HK.out; omega
        have hn2 : k ≤ 100000 := by have := HSm.out; omega
        have HFl : Held (∀ r ∈ rows, r.length ≤ 1000000) := ⟨fun r hr => by
          have := List.Sublist.length_le (List.sublist_flatten_of_mem hr)
          omega⟩
        have HRP := Held.mk (rpool_any A k c rows w HK.out (HR.out w (Below.refl _ _)) HGd.out hn)
        have HPl : Held (∀ W A c, RdLL W (fun k => k < W.heap.size) A rows → Calls Tryd.prog 22 #[.slice A k c] W fun e w' => ∃ v, e = .returned (.tuple #[v, errP (runP [] rows.flatten).1]) ∧ OwnG w' W.heap.size v (runP [] rows.flatten).2 ∧ Below W.heap.size W w') := ⟨fun W A c h => pool_any A k c rows W HK.out h HGd.out hn⟩
        have hcode := runP_code rows.flatten []
        have hlen : (runP [] rows.flatten).2.length ≤ 1000000 := by
          have := runP_len rows.flatten []
          rw [List.length_nil] at this
          omega
        have HLen := Held.mk hlen
        generalize (runP [] rows.flatten).1 = no at *
        generalize (runP [] rows.flatten).2 = L at *
        have HPn : Held (∀ W, Laid W → Calls Tryd.prog 23 #[errP no, .int .i64 no] W fun e w' => e = .returned (.bool true) ∧ Below W.heap.size W w') := ⟨fun W hW => plainP no hcode W hW⟩
        clear hcode hlen HSm hn
        go_wp2_with fail
        refine HRP.out.mono ?_
        rintro e w1 ⟨v1, rfl, ho1, hb1⟩
        have HO1 := Held.mk ho1
        have HB1 := Held.mk hb1
        clear ho1 hb1 HRP
        go_wp2_with fail
        go_loopw [7, 8] (fun v i wr => ∃ (j : Nat) (Vs : List Value), i = .int .i64 j ∧ j ≤ k ∧ Held (Ins wr w1.heap.size v rows j Vs) ∧ Held (Below w1.heap.size w1 wr)) (fun _ i _ => k - (intOf i).toNat)
        case atStart => exact ⟨0, [], rfl, Nat.zero_le _, ⟨⟨own_nil _ _ _ _, fun j hj => by omega⟩⟩, ⟨Below.refl _ _⟩⟩
        case round =>
          obtain ⟨j, Vs, rfl, hj, HIn, HBw⟩ := hrel
          generalize wr = wA at *
          obtain ⟨Ao, co, rfl, hco⟩ := own_slice_ HIn.out.own
          by_cases hlj : j < k
          · have i4 : decide ((j : Int) < (k : Int)) = true := decide_eq_true (by omega)
            have j4 : 0 ≤ (j : Int) ∧ (j : Int) < (k : Int) := ⟨by omega, by omega⟩
            have hjr : j < rows.length := by have := HK.out; omega
            have HBwa : Held (Below w.heap.size w wA) := ⟨HB1.out.trans (HBw.out.mono HB1.out.size)⟩
            obtain ⟨ad, Ai, ci, rfl, hab, hcell, hci, hri⟩ := (HR.out wA HBwa.out).at_ hjr
            have HLt := Held.mk (lent_any Ai rows[j].length ci rows[j] wA rfl (hri.mono fun k hk => Nat.lt_of_lt_of_le hk HBwa.out.size) (by have := HFl.out _ (List.getElem_mem hjr); omega))
            have HInx : Held (∀ wx g c, Lent wx wA.heap.size g rows[j].length c rows[j] → Below wA.heap.size wA wx → Ins wx w1.heap.size (.slice Ao j co) rows j Vs ∧ Lent wx w1.heap.size g rows[j].length c rows[j]) := ⟨fun wx g c hl hb => ⟨HIn.out.below hb, ⟨own_rebase hl.own (fun k hk => by have := own_ge hl.own k hk; have := HBw.out.size; omega), hl.len, by have := hl.ge; have := HBw.out.size; omega⟩⟩⟩
            have HNx := Held.mk (fun (wx w3 : World) (v2 : Value) (g c : Nat) h hl ho hg => Ins.next (wr := wA) (wx := wx) (w3 := w3) (base := w1.heap.size) (v := .slice Ao j co) (v2 := v2) (rows := rows) (i := j) (g := g) (c := c) (Vs := Vs) h hjr hl ho hg)
            generalize rows[j] = row at *
            generalize row.length = n at *
            have HSa := Held.mk HBw.out.size
            clear hri hci HBwa HIn
            go_wp2_with fail
            refine HLt.out.mono ?_
            rintro e w2 ⟨g, c2, rfl, hl2, hb2⟩
            have HI2 := Held.mk (HInx.out w2 g c2 hl2 hb2)
            have HB2 : Held (Below w1.heap.size w1 w2) := ⟨HBw.out.trans (hb2.mono HBw.out.size)⟩
            have hjb : j ≤ 100000 := by omega
            have HOx : Held ((w2.alloc (.cells #[.slice (some ⟨g, 0, none⟩) n c2] 43)).ownsRow w1.heap.size 43 1 (.slice Ao j co) j Vs) := ⟨HI2.out.1.own.alloc _⟩
            have HRx : Held (RdV (w2.alloc (.cells #[.slice (some ⟨g, 0, none⟩) n c2] 43)) (fun _ => True) 1 (some ⟨w2.heap.size, 0, none⟩) 1 [.slice (some ⟨g, 0, none⟩) n c2]) := ⟨⟨rfl, fun _ => ⟨_, rfl, trivial, World.news_of_block (cs := #[.slice (some ⟨g, 0, none⟩) n c2]) (t := 43) (fr := (0, 0)) (heap_alloc_new _ _)⟩⟩⟩
            have HL3 : Held ((j + 1 + (j + 1) / 4 + 192) * 24 ≤ 281474976710656) := ⟨by omega⟩
            have HX : Held (w1.heap.size ≤ (w2.alloc (.cells #[.slice (some ⟨g, 0, none⟩) n c2] 43)).heap.size) := ⟨by have := HB2.out.size; simp; omega⟩
            clear hl2 hb2 HLt HInx HBw
            go_wp2_with ((at_builtin; go_loud (refine appS _ w1.heap.size rfl (.tmp 47) (.tmp 53) 42 43 (.slice none 0 0) 1 24 rfl Tryd.underlying42 info_legs rfl (by decide) (by decide) (.slice Ao j co) j Vs rfl HOx.out (fun _ => True) (some ⟨w2.heap.size, 0, none⟩) 1 1 [.slice (some ⟨g, 0, none⟩) n c2] rfl HRx.out (by simp [Value.oneCell']) HL3.out HX.out ?_)); (intro v2 w3 ho3 hg3 hat3))
            have HBn : Held (Below w1.heap.size w1 w3) := ⟨(((Keep.of_below HB2.out (fun _ => False)).alloc _).grown hg3 (fun k hk e => by have := own_ge HOx.out k e; omega)).to_below (fun _ _ h => h)⟩
            have HIn3 := Held.mk (HNx.out w2 w3 v2 g c2 HI2.out.1 HI2.out.2 ho3 (World.grownBy.trans (World.grownBy_alloc w2 _ _) hg3))
            clear ho3 hg3 hat3
            go_roundw
            case rel => exact ⟨j + 1, _, by go_num, by omega, HIn3, HBn⟩
            case measure => simp [intOf] <;> omega
          · obtain rfl : j = k := by omega
            have i4 : decide ((j : Int) < (j : Int)) = false := decide_eq_false (by omega)
            obtain rfl : j = rows.length := HK.out
            obtain ⟨Ai, ci, e_, hrin⟩ := HIn.out.rd
            injection e_ with e1 _ e2
            subst e1
            subst e2
            have HBA : Held (Below w.heap.size w wA) := ⟨HB1.out.trans (HBw.out.mono HB1.out.size)⟩
            have HPa := Held.mk (HPl.out wA Ao co hrin)
            have HPb : Held (∀ W, Below wA.heap.size wA W → Calls Tryd.prog 22 #[.slice Ao rows.length co] W fun e w' => ∃ v, e = .returned (.tuple #[v, errP no]) ∧ OwnG w' W.heap.size v L ∧ Below W.heap.size W w') := ⟨fun W hB => HPl.out W Ao co (by
              obtain ⟨V, h1, h2⟩ := hrin.keep (Keep.of_below hB (fun k => ¬ k < wA.heap.size)) (fun k h h' => h' h)
              refine ⟨V, h1.mono fun k hk => Nat.lt_of_lt_of_le hk hB.size, fun i hi => ?_⟩
              obtain ⟨Ai, ci, e, hc, hr⟩ := h2 i hi
              exact ⟨Ai, ci, e, hc, hr.mono fun k hk => Nat.lt_of_lt_of_le hk hB.size⟩)⟩
            obtain ⟨A1, c1, rfl, hr1⟩ := own_rdg HO1.out
            have HR1 := Held.mk hr1
            clear hrin hr1 HPl HRo HGd
            go_wp2_with fail
            refine HPa.out.mono ?_
            rintro e w3 ⟨v3, rfl, ho3, hb3⟩
            obtain ⟨A3, c3, rfl, hr3⟩ := own_rdg ho3
            have HO3 := Held.mk ho3
            have HR3 := Held.mk hr3
            have HBA3 := Held.mk hb3
            have HP3 := Held.mk (HPb.out w3 hb3)
            clear ho3 hr3 hb3 HPa HPb
            go_wp2_with fail
            refine HP3.out.mono ?_
            rintro e w4 ⟨v4, rfl, ho4, hb4⟩
            obtain ⟨A4, c4, rfl, hr4⟩ := own_rdg ho4
            have HO4 := Held.mk ho4
            have HR4 := Held.mk hr4
            have HB34 := Held.mk hb4
            have HBA4 : Held (Below wA.heap.size wA w4) := ⟨HBA3.out.trans (hb4.mono HBA3.out.size)⟩
            have HB4 : Held (Below w.heap.size w w4) := ⟨HBA.out.trans (HBA4.out.mono HBA.out.size)⟩
            have HB14 : Held (Below w1.heap.size w1 w4) := ⟨HBw.out.trans (HBA4.out.mono HBw.out.size)⟩
            clear ho4 hr4 hb4 HP3
            go_wp2_with fail
            refine (HPn.out _ (HG.out.below HB4.out)).mono ?_
            rintro e w5 ⟨rfl, hb5⟩
            have HB45 := Held.mk hb5
            clear hb5
            go_wp2_with fail
            refine (HPn.out _ (HG.out.below (HB4.out.trans (HB45.out.mono HB4.out.size)))).mono ?_
            rintro e w6 ⟨rfl, hb6⟩
            have HB46 : Held (Below w4.heap.size w4 w6) := ⟨HB45.out.trans (hb6.mono HB45.out.size)⟩
            have HSt : Held (∀ q, RdLg (w6.drewN q) _ A1 L ∧ RdLg (w6.drewN q) _ A3 L ∧ RdLg (w6.drewN q) _ A4 L) := ⟨fun q => ⟨RdV.keep HR1.out (Keep.of_below (HB14.out.trans ((below_drwN HB46.out q).mono HB14.out.size)) (fun _ => False)) (fun _ _ h => h), RdV.keep HR3.out (Keep.of_below (HB34.out.trans ((below_drwN HB46.out q).mono HB34.out.size)) (fun _ => False)) (fun _ _ h => h), RdV.keep HR4.out (Keep.of_below (below_drwN HB46.out q) (fun _ => False)) (fun _ _ h => h)⟩⟩
            have HSa := Held.mk (sameLegs_in _ _ A3 A1 c3 c1 L w6 (HSt.out 0).2.1 (HSt.out 0).1 (by have := HLen.out; omega))
            have HSb := Held.mk (fun q => sameLegs_in _ _ A4 A1 c4 c1 L (w6.drewN q) (HSt.out q).2.2 (HSt.out q).1 (by have := HLen.out; omega))
            clear hb6 HB45 HSt HPn
            go_wp2_with fail
            refine HSa.out.mono ?_
            rintro e w7 ⟨rfl, m7, rfl⟩
            go_wp2_with fail
            refine (HSb.out m7).mono ?_
            rintro e w7 ⟨rfl, m8, rfl⟩
            have HB48 : Held (Below w4.heap.size w4 ((w6.drewN m7).drewN m8)) := ⟨below_drwN (below_drwN HB46.out _) _⟩
            clear HSa HSb HB46
            generalize (w6.drewN m7).drewN m8 = w8 at *
            go_wp2_with fail
            refine (Ord.works_any w8).mono ?_
            rintro e wa ⟨rfl, hb9⟩
            have HBa : Held (Below w4.heap.size w4 wa) := ⟨HB48.out.trans (hb9.mono HB48.out.size)⟩
            have HB3a : Held (Below w3.heap.size w3 wa) := ⟨HB34.out.trans (HBa.out.mono HB34.out.size)⟩
            have HBAa : Held (Below wA.heap.size wA wa) := ⟨HBA4.out.trans (HBa.out.mono HBA4.out.size)⟩
            clear hb9 HB48
            have HAp := Held.mk (apart_two wA w3 wa HBA3.out.size (.slice A3 L.length c3) (.slice A4 L.length c4) L ((Keep.of_below HB3a.out (fun _ => False)).own HO3.out (fun _ _ h => h)) (fun k hk => own_lt HO3.out k hk) ((Keep.of_below HBa.out (fun _ => False)).own HO4.out (fun _ _ h => h)) HLen.out HBAa.out.size)
            go_wp2_with fail
            refine HAp.out.mono ?_
            rintro e wb ⟨rfl, hkb⟩
            have HT : Held (∀ k, ((Value.slice A3 L.length c3).ownBlock = some k ∨ (Value.slice A4 L.length c4).ownBlock = some k) → wA.heap.size ≤ k) := ⟨fun k h => by
              rcases h with h | h
              · exact own_ge HO3.out k h
              · have := own_ge HO4.out k h
                have := HBA3.out.size
                omega⟩
            have HBAb : Held (Below wA.heap.size wA wb) := ⟨((Keep.of_below (HBAa.out.alloc HBAa.out.size (.cells #[.slice A3 L.length c3, .slice A4 L.length c4] 43)) (fun _ => False)).then hkb (fun k hk h => absurd hk (Nat.not_lt.2 (HT.out k h)))).to_below (fun _ _ h => h)⟩
            have HInb := Held.mk (HIn.out.below HBAb.out)
            have HBb : Held (Below w.heap.size w wb) := ⟨HBA.out.trans (HBAb.out.mono HBA.out.size)⟩
            clear hkb HAp HT HBAb HBAa HB3a HBa HB14 HB34 HB4 HBA4 HBA3 HO3 HO4 HR1 HR3 HR4 HIn HBA HBw HO1 HB1
            go_wp2_with fail
            go_loopw [14] (fun i wr => ∃ i' : Nat, i = .int .i64 i' ∧ i' ≤ rows.length ∧ Held (Below wb.heap.size wb wr)) (fun i _ => rows.length - (intOf i).toNat)
            case atStart => exact ⟨0, rfl, Nat.zero_le _, ⟨Below.refl _ _⟩⟩
            case round =>
              obtain ⟨i, rfl, hi, HBr⟩ := hrel
              generalize wr = wR at *
              have HBwR : Held (Below w.heap.size w wR) := ⟨HBb.out.trans (HBr.out.mono HBb.out.size)⟩
              by_cases hir : i < rows.length
              · have i5 : decide ((i : Int) < (rows.length : Int)) = true := decide_eq_true (by omega)
                have j5 : 0 ≤ (i : Int) ∧ (i : Int) < (rows.length : Int) := ⟨by omega, by omega⟩
                obtain ⟨ad, g, cg, rfl, hadg, hadl, hc1, hlent⟩ := (HInb.out.below HBr.out).at_ hir
                obtain ⟨ad2, Ai2, ci2, rfl, hab2, hc2, hci2, hri2⟩ := (HR.out wR HBwR.out).at_ hir
                have hsz : rows[i].length ≤ 1000000 := HFl.out _ (List.getElem_mem hir)
                have HKp : Held (∀ W, Below wR.heap.size wR W → Calls Tryd.prog 26 #[.slice (some ⟨g, 0, none⟩) rows[i].length cg, .slice Ai2 rows[i].length ci2] W fun e w' => e = .returned (.bool true) ∧ Below wR.heap.size wR w') := ⟨fun W hB => (kept_any Ai2 w1.heap.size g rows[i].length cg ci2 rows[i] W (hlent.keep (Keep.of_below hB (fun k => ¬ k < wR.heap.size)) (fun h => h (own_lt hlent.own g rfl))) ((RdV.keep hri2 (Keep.of_below hB (fun k => ¬ k < wR.heap.size)) (fun k hk h => h (Nat.lt_of_lt_of_le hk HBwR.out.size))).mono fun k hk => Nat.lt_of_lt_of_le hk (Nat.le_trans HBwR.out.size hB.size)) (by omega)).mono fun e w' h => ⟨h.1, hB.trans (h.2.mono hB.size)⟩⟩
                have HCf : Held (∀ W, Below wR.heap.size wR W → W.cell? (ad.add i) = some (.slice (some ⟨g, 0, none⟩) rows[i].length cg) ∧ W.cell? (ad2.add i) = some (.slice Ai2 rows[i].length ci2)) := ⟨fun W hB => ⟨(Keep.of_below hB (fun k => ¬ k < wR.heap.size)).cell hc1 (fun h => h hadl), (Keep.of_below hB (fun k => ¬ k < wR.heap.size)).cell hc2 (fun h => h (Nat.lt_of_lt_of_le hab2 HBwR.out.size))⟩⟩
                clear hri2 hlent hsz HBwR
                generalize rows[i].length = nr at *
                have hB : Below wR.heap.size wR wR := Below.refl _ _
                go_wp2_with fail
                go_region_held3 (fun w' => w'.cell? (ad.add i) = some (.slice (some ⟨g, 0, none⟩) nr cg) ∧ w'.cell? (ad2.add i) = some (.slice Ai2 nr ci2)) (go_keep) ((go_at_call 26; refine (HKp.out _ (by first | exact hB | exact below_drw hB)).mono ?_; rintro e w6 ⟨rfl, hb6⟩; have hB := hb6; obtain ⟨hc1, hc2⟩ := HCf.out _ hB))
                have HB6 : Held (Below wb.heap.size wb w6) := ⟨HBr.out.trans (hB.mono HBr.out.size)⟩
                clear hB hb6 HKp HCf hc1 hc2 HBr
                go_wp2_with fail
                go_roundw
                case rel => exact ⟨i + 1, by go_num, by omega, HB6⟩
                case measure => simp [intOf] <;> omega
              · obtain rfl : i = rows.length := by omega
                have i5 : decide ((rows.length : Int) < (rows.length : Int)) = false := decide_eq_false (by omega)
                go_wp2_with fail
                go_ret
                exact ⟨rfl, HBwR.out⟩
      · have i3 : decide ((100000 : Int) < (s : Int)) = true := decide_eq_true (by omega)
        go_wp2_with fail
        refine (Ord.works_any w).mono ?_
        rintro e w1 ⟨rfl, hb1⟩
        have HB1 := Held.mk hb1
        clear hb1
        go_wp2_with fail
        go_ret
        exact ⟨rfl, HB1.out⟩
end Klg
end Go.Proofs.YtgmanmbicoofgaaDoor
