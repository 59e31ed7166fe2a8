/- What Order answers, each case; the program's and the document's; told: walked. -/
import Derived.Test.YtgmanmbicoofgaaDoorGpb
import Derived.Test.YtgmanmbicoofgaaDoorRor
namespace Go.Proofs.YtgmanmbicoofgaaDoor
set_option linter.unusedVariables false
set_option linter.unusedSimpArgs false
namespace Grp
open Go.RowKit Mem Err
/-- The order that is asked. -/
def ordz (n : Int) (l : List Two) (prs : List Int) : List Nat := Ord.ord (l.map nat) (fun i => prs.getD i 0) n.toNat
/-- The answer: the order, the error, its number, its place. -/
inductive Anz (n : Int) (l : List Two) (prs : List Int) : List Nat → Value → Int → Int → Prop
  | neg : n < 0 → Anz n l prs [] (wrong 1) 1 0
  | many : 4096 < n → Anz n l prs [] (wrong 5) 5 0
  | short : 0 ≤ n → n ≤ 4096 → (prs.length : Int) < n → Anz n l prs [] (wrong 2) 2 0
  | long : 0 ≤ n → n ≤ 4096 → n < (prs.length : Int) → Anz n l prs [] (wrong 3) 3 0
  | lost (i : Nat) (h : i < l.length) : 0 ≤ n → n ≤ 4096 → (prs.length : Int) = n → (∀ j, (hj : j < i) → Nms n (l[j]'(Nat.lt_trans hj h))) → ¬ Nms n l[i] → Anz n l prs [] (fault 10 0 i) 10 i
  | loop : 0 ≤ n → n ≤ 4096 → (prs.length : Int) = n → (∀ p ∈ l, Nms n p) → (ordz n l prs).length ≠ n.toNat → Anz n l prs [] (wrong 12) 12 0
  | fine : 0 ≤ n → n ≤ 4096 → (prs.length : Int) = n → (∀ p ∈ l, Nms n p) → (ordz n l prs).length = n.toNat → Anz n l prs (ordz n l prs) .nilIface 0 0
theorem Anz.some (n : Int) (l : List Two) (prs : List Int) : ∃ G E no at_, Anz n l prs G E no at_ := by
  by_cases h1 : n < 0
  · exact ⟨_, _, _, _, .neg h1⟩
  · by_cases h2 : 4096 < n
    · exact ⟨_, _, _, _, .many h2⟩
    · by_cases h3 : (prs.length : Int) < n
      · exact ⟨_, _, _, _, .short (by omega) (by omega) h3⟩
      · by_cases h4 : n < (prs.length : Int)
        · exact ⟨_, _, _, _, .long (by omega) (by omega) h4⟩
        · rcases first_or (Nms n) l with h | ⟨i, h, h5, h6⟩
          · by_cases h7 : (ordz n l prs).length = n.toNat
            · exact ⟨_, _, _, _, .fine (by omega) (by omega) (by omega) h h7⟩
            · exact ⟨_, _, _, _, .loop (by omega) (by omega) (by omega) h h7⟩
          · exact ⟨_, _, _, _, .lost i h (by omega) (by omega) (by omega) h5 h6⟩
theorem Anz.len {n : Int} {l : List Two} {prs : List Int} {G : List Nat} {E : Value} {no at_ : Int} (h : Anz n l prs G E no at_) : G.length ≤ 4096 := by
  cases h with
  | fine h0 h1 _ _ h2 => rw [h2]; omega
  | _ => simp
set_option maxHeartbeats 4000000 in
set_option maxRecDepth 100000 in
theorem named_fine (k : Nat) (A : Option Addr) (m c : Nat) (l : List Two) (ok : Nat → Prop) (w : World) (hm : m = l.length) (hb : m ≤ 8796093022208) (h : RdT w ok A l) (hok : ∀ k, ok k → k < w.heap.size) (hf : ∀ p ∈ l, Nms k p) :
    Calls Tryd.prog 43 #[.int .i64 k, .slice A m c] w fun e w' => e = .returned .nilIface ∧ Below w.heap.size w w' :=
  named_ok k A m c (l.map nat) ok w (by simpa using hm) (by omega) (rd_nat h hf) hok (by simpa using nat_lt hf)
set_option maxHeartbeats 4000000 in
set_option maxRecDepth 100000 in
theorem Order_any (n : Int) (A Ap : Option Addr) (m c np cp : Nat) (l : List Two) (prs : List Int) (ok okp : Nat → Prop) (w : World) (G : List Nat) (E : Value) (no at_ : Int) (hans : Anz n l prs G E no at_) (hm : m = l.length) (hnp : np = prs.length) (hb : m ≤ 8796093022208) (hbp : np ≤ 17592186044416) (h : RdT w ok A l) (hok : ∀ k, ok k → k < w.heap.size)
    (hr : RdN w okp .i64 Ap np prs) (hokp : ∀ k, okp k → k < w.heap.size) :
    Calls Tryd.prog 18 #[.int .i64 n, .slice A m c, .slice Ap np cp] w fun e w' => ∃ v, e = .returned (.tuple #[v, E]) ∧ w'.ownsRow w.heap.size 3 1 v G.length (ints G) ∧ Below w.heap.size w w' := by
  have hnpI : (np : Int) ≤ 17592186044416 := by omega
  cases hans with
  | neg hn =>
    have HS := Held.mk (sized_neg n w hn)
    clear hn
    unfold wrong at HS ⊢
    go_enter Tryd.func18, Tryd.ntmps18
    go_wp2_with fail
    refine HS.out.mono ?_
    rintro e w1 ⟨rfl, rfl⟩
    go_wp2_with fail
    go_ret2
    exact ⟨_, rfl, own_nil _ _ _ _, Below.refl _ _⟩
  | many hn =>
    have HS := Held.mk (sized_many n w hn)
    clear hn
    unfold wrong at HS ⊢
    go_enter Tryd.func18, Tryd.ntmps18
    go_wp2_with fail
    refine HS.out.mono ?_
    rintro e w1 ⟨rfl, rfl⟩
    go_wp2_with fail
    go_ret2
    exact ⟨_, rfl, own_nil _ _ _ _, Below.refl _ _⟩
  | short h0 h1 hs =>
    obtain ⟨k, rfl⟩ : ∃ k : Nat, n = k := ⟨n.toNat, by omega⟩
    have HS := Held.mk (sized_ok k w (by omega))
    have hlt : (np : Int) < k := by omega
    clear h hm hok hr hokp hs
    unfold wrong
    go_enter Tryd.func18, Tryd.ntmps18
    go_wp2_with fail
    refine HS.out.mono ?_
    rintro e w1 ⟨rfl, rfl⟩
    go_wp2_with fail
    go_ret2
    exact ⟨_, rfl, own_nil _ _ _ _, Below.refl _ _⟩
  | long h0 h1 hs =>
    obtain ⟨k, rfl⟩ : ∃ k : Nat, n = k := ⟨n.toNat, by omega⟩
    have HS := Held.mk (sized_ok k w (by omega))
    have hlt : ¬ (np : Int) < k := by omega
    have hlt2 : (k : Int) < np := by omega
    clear h hm hok hr hokp hs
    unfold wrong
    go_enter Tryd.func18, Tryd.ntmps18
    go_wp2_with fail
    refine HS.out.mono ?_
    rintro e w1 ⟨rfl, rfl⟩
    go_wp2_with fail
    go_ret2
    exact ⟨_, rfl, own_nil _ _ _ _, Below.refl _ _⟩
  | lost i hi h0 h1 hs hgo hbad =>
    obtain ⟨k, rfl⟩ : ∃ k : Nat, n = k := ⟨n.toNat, by omega⟩
    obtain rfl : np = k := by omega
    have HS := Held.mk (sized_ok np w (by omega))
    have HN := Held.mk (named_lost np A m c i l ok w hm hb h hi hgo hbad)
    clear h hgo hbad hm hok hr hokp hs hnp
    unfold fault at HN ⊢
    go_enter Tryd.func18, Tryd.ntmps18
    go_wp2_with fail
    refine HS.out.mono ?_
    rintro e w1 ⟨rfl, rfl⟩
    go_wp2_with fail
    refine HN.out.mono ?_
    rintro e w2 ⟨rfl, hb2⟩
    have HB2 := Held.mk hb2
    clear hb2
    go_wp2_with fail
    go_ret2
    exact ⟨_, rfl, own_nil _ _ _ _, HB2.out⟩
  | loop h0 h1 hs hf hne =>
    obtain ⟨k, rfl⟩ : ∃ k : Nat, n = k := ⟨n.toNat, by omega⟩
    obtain rfl : np = k := by omega
    have HS := Held.mk (sized_ok np w (by omega))
    have HN := Held.mk (named_fine np A m c l ok w hm hb h hok hf)
    have HO := Held.mk (fun W (hW : Keep (fun _ => False) w W) => Ord.order_any np A Ap m c cp (l.map nat) prs ok okp W (by omega) (by simpa using hm) (by omega) ((rd_nat h hf).keep hW (fun _ _ h => h)) (fun j hj => Nat.lt_of_lt_of_le (hok j hj) hW.size) (by simpa using nat_lt hf) (RdN.keep hr hW (fun _ _ h => h)) (fun j hj => Nat.lt_of_lt_of_le (hokp j hj) hW.size))
    have hde : decide ((Ord.ord (l.map nat) (fun i => prs.getD i 0) np).length = np) = false := decide_eq_false (by simpa [ordz] using hne)
    rw [hde] at HO
    clear h hf hm hok hr hokp hs hnp hne hde
    unfold wrong
    go_enter Tryd.func18, Tryd.ntmps18
    go_wp2_with fail
    refine HS.out.mono ?_
    rintro e w1 ⟨rfl, rfl⟩
    go_wp2_with fail
    refine HN.out.mono ?_
    rintro e w2 ⟨rfl, hb2⟩
    have HB2 := Held.mk hb2
    clear hb2
    go_wp2_with fail
    refine (HO.out w2 (Keep.of_below HB2.out _)).mono ?_
    rintro e w3 ⟨v, rfl, ho3, hb3⟩
    have HB3 : Held (Below w1.heap.size w1 w3) := ⟨HB2.out.trans (hb3.mono HB2.out.size)⟩
    clear ho3 hb3 HO
    go_wp2_with fail
    go_ret2
    exact ⟨_, rfl, own_nil _ _ _ _, HB3.out⟩
  | fine h0 h1 hs hf heq =>
    obtain ⟨k, rfl⟩ : ∃ k : Nat, n = k := ⟨n.toNat, by omega⟩
    obtain rfl : np = k := by omega
    refine (Ord.Order_ok np A Ap m c cp (l.map nat) prs ok okp w (by omega) (by simpa using hm) (by omega) (rd_nat h hf) hok (by simpa using nat_lt hf) hr hokp (by simpa [ordz] using heq)).mono ?_
    rintro e w' ⟨v, rfl, ho, hb⟩
    refine ⟨v, rfl, ?_, hb⟩
    rw [heq]
    exact ho
set_option maxHeartbeats 4000000 in
set_option maxRecDepth 100000 in
theorem rOrder_any (n : Int) (A Ap : Option Addr) (m c np cp : Nat) (l : List Two) (prs : List Int) (ok okp : Nat → Prop) (w : World) (G : List Nat) (E : Value) (no at_ : Int) (hans : Anz n l prs G E no at_) (hm : m = l.length) (hnp : np = prs.length) (hb : m ≤ 8796093022208) (hbp : np ≤ 17592186044416) (h : RdT w ok A l) (hok : ∀ k, ok k → k < w.heap.size)
    (hr : RdN w okp .i64 Ap np prs) (hokp : ∀ k, okp k → k < w.heap.size) :
    Calls Tryd.prog 16 #[.int .i64 n, .slice A m c, .slice Ap np cp] w fun e w' => ∃ v, e = .returned (.tuple #[v, .int .i64 no, .int .i64 at_]) ∧ w'.ownsRow w.heap.size 3 1 v G.length (ints G) ∧ Below w.heap.size w w' := by
  have hnpI : (np : Int) ≤ 17592186044416 := by omega
  cases hans with
  | neg hn =>
    go_enter Tryd.func16, Tryd.ntmps16
    go_wp2
    go_ret3
    exact ⟨_, rfl, own_nil _ _ _ _, Below.refl _ _⟩
  | many hn =>
    have h1 : ¬ n < 0 := by omega
    go_enter Tryd.func16, Tryd.ntmps16
    go_wp2
    go_ret3
    exact ⟨_, rfl, own_nil _ _ _ _, Below.refl _ _⟩
  | short h0 h1 hs =>
    have hlt : (np : Int) < n := by omega
    clear h hm hok hr hokp hs
    go_enter Tryd.func16, Tryd.ntmps16
    go_wp2_with fail
    refine (rsize_ok n w (by omega) (by omega)).mono ?_
    rintro e w1 ⟨rfl, rfl⟩
    go_wp2_with fail
    go_ret3
    exact ⟨_, rfl, own_nil _ _ _ _, Below.refl _ _⟩
  | long h0 h1 hs =>
    have hlt : ¬ (np : Int) < n := by omega
    have hlt2 : n < (np : Int) := by omega
    clear h hm hok hr hokp hs
    go_enter Tryd.func16, Tryd.ntmps16
    go_wp2_with fail
    refine (rsize_ok n w (by omega) (by omega)).mono ?_
    rintro e w1 ⟨rfl, rfl⟩
    go_wp2_with fail
    go_ret3
    exact ⟨_, rfl, own_nil _ _ _ _, Below.refl _ _⟩
  | lost i hi h0 h1 hs hgo hbad =>
    obtain ⟨k, rfl⟩ : ∃ k : Nat, n = k := ⟨n.toNat, by omega⟩
    obtain rfl : np = k := by omega
    have HN := Held.mk (lost_any np A m c i l ok w hm hb h (Nat.le_of_lt hi) hgo (fun _ => hbad))
    rw [if_pos hi] at HN
    have hi0 : (0 : Int) ≤ i := by omega
    clear h hgo hbad hm hok hr hokp hs hnp
    go_enter Tryd.func16, Tryd.ntmps16
    go_wp2_with fail
    refine (rsize_ok np w (by omega) (by omega)).mono ?_
    rintro e w1 ⟨rfl, rfl⟩
    go_wp2_with fail
    refine HN.out.mono ?_
    rintro e w2 ⟨rfl, hb1⟩
    go_wp2_with fail
    go_ret3
    exact ⟨_, rfl, own_nil _ _ _ _, hb1⟩
  | loop h0 h1 hs hf hne =>
    obtain ⟨k, rfl⟩ : ∃ k : Nat, n = k := ⟨n.toNat, by omega⟩
    obtain rfl : np = k := by omega
    have HN := Held.mk (lost_any np A m c l.length l ok w hm hb h (Nat.le_refl _) (fun j hj => hf _ (List.getElem_mem hj)) (fun h => absurd h (Nat.lt_irrefl _)))
    rw [if_neg (Nat.lt_irrefl _)] at HN
    have HO := Held.mk (fun W (hW : Keep (fun _ => False) w W) => Ord.rorder_any np A Ap m c cp (l.map nat) prs ok okp W (by omega) (by simpa using hm) (by omega) ((rd_nat h hf).keep hW (fun _ _ h => h)) (by simpa using nat_lt hf) (RdN.keep hr hW (fun _ _ h => h)) (fun j hj => Nat.lt_of_lt_of_le (hok j hj) hW.size) (fun j hj => Nat.lt_of_lt_of_le (hokp j hj) hW.size))
    have hde : decide ((Ord.ord (l.map nat) (fun i => prs.getD i 0) np).length = np) = false := decide_eq_false (by simpa [ordz] using hne)
    rw [hde] at HO
    clear h hf hm hok hr hokp hs hnp hne hde
    go_enter Tryd.func16, Tryd.ntmps16
    go_wp2_with fail
    refine (rsize_ok np w (by omega) (by omega)).mono ?_
    rintro e w1 ⟨rfl, rfl⟩
    go_wp2_with fail
    refine HN.out.mono ?_
    rintro e w2 ⟨rfl, hb2⟩
    have HB2 := Held.mk hb2
    clear hb2
    go_wp2_with fail
    refine (HO.out w2 (Keep.of_below HB2.out _)).mono ?_
    rintro e w3 ⟨v, rfl, ho3, hb3⟩
    have HB3 : Held (Below w1.heap.size w1 w3) := ⟨HB2.out.trans (hb3.mono HB2.out.size)⟩
    clear ho3 hb3 HO
    go_wp2_with fail
    go_ret3
    exact ⟨_, rfl, own_nil _ _ _ _, HB3.out⟩
  | fine h0 h1 hs hf heq =>
    obtain ⟨k, rfl⟩ : ∃ k : Nat, n = k := ⟨n.toNat, by omega⟩
    obtain rfl : np = k := by omega
    have heq' : (Ord.ord (l.map nat) (fun i => prs.getD i 0) np).length = np := by simpa [ordz] using heq
    have HN := Held.mk (lost_any np A m c l.length l ok w hm hb h (Nat.le_refl _) (fun j hj => hf _ (List.getElem_mem hj)) (fun h => absurd h (Nat.lt_irrefl _)))
    rw [if_neg (Nat.lt_irrefl _)] at HN
    have HO := Held.mk (fun W (hW : Keep (fun _ => False) w W) => Ord.rorder_any np A Ap m c cp (l.map nat) prs ok okp W (by omega) (by simpa using hm) (by omega) ((rd_nat h hf).keep hW (fun _ _ h => h)) (by simpa using nat_lt hf) (RdN.keep hr hW (fun _ _ h => h)) (fun j hj => Nat.lt_of_lt_of_le (hok j hj) hW.size) (fun j hj => Nat.lt_of_lt_of_le (hokp j hj) hW.size))
    have hde : decide ((Ord.ord (l.map nat) (fun i => prs.getD i 0) np).length = np) = true := decide_eq_true heq'
    have hwh : Ord.whole np (Ord.ord (l.map nat) (fun i => prs.getD i 0) np) = Ord.ord (l.map nat) (fun i => prs.getD i 0) np := if_pos heq'
    rw [hde, hwh] at HO
    have HE : Held (ordz (np : Int) l prs = Ord.ord (l.map nat) (fun i => prs.getD i 0) np) := ⟨by simp [ordz]⟩
    clear h hf hm hok hr hokp hs hnp heq heq' hde hwh
    go_enter Tryd.func16, Tryd.ntmps16
    go_wp2_with fail
    refine (rsize_ok np w (by omega) (by omega)).mono ?_
    rintro e w1 ⟨rfl, rfl⟩
    go_wp2_with fail
    refine HN.out.mono ?_
    rintro e w2 ⟨rfl, hb2⟩
    have HB2 := Held.mk hb2
    clear hb2
    go_wp2_with fail
    refine (HO.out w2 (Keep.of_below HB2.out _)).mono ?_
    rintro e w3 ⟨v, rfl, ho3, hb3⟩
    have HB3 : Held (Below w1.heap.size w1 w3) := ⟨HB2.out.trans (hb3.mono HB2.out.size)⟩
    have HO3 : Held (w3.ownsRow w1.heap.size 3 1 v (ordz (np : Int) l prs).length (ints (ordz (np : Int) l prs))) := ⟨by
      rw [HE.out]
      exact own_rebase ho3 (fun j e => Nat.le_trans HB2.out.size (own_ge ho3 j e))⟩
    clear ho3 hb3 HO
    go_wp2_with fail
    go_ret3
    exact ⟨v, rfl, HO3.out, HB3.out⟩
set_option maxHeartbeats 4000000 in
set_option maxRecDepth 100000 in
theorem told_wrong (k : Int) (hk : k = 1 ∨ k = 2 ∨ k = 3 ∨ k = 5 ∨ k = 12) (w : World) (hg : Laid w) :
    Calls Tryd.prog 11 #[wrong k, .int .i64 k, .int .i64 0, .int .i64 0] w fun e w' => e = .returned (.bool true) ∧ Below w.heap.size w w' := by
  have HP : Held (Calls Tryd.prog 23 #[wrong k, .int .i64 k] w fun e w' => e = .returned (.bool true) ∧ Below w.heap.size w w') := ⟨by
    have := plain_err 87 (.agg #[.int .i64 k]) k k w (isErr_wrong k) (by omega) (by omega) hg
    rw [beq_self_eq_true] at this
    exact this⟩
  clear hg
  unfold wrong at HP ⊢
  rcases hk with rfl | rfl | rfl | rfl | rfl
  all_goals
    go_enter Tryd.func11, Tryd.ntmps11
    go_wp2_with fail
    refine HP.out.mono ?_
    rintro e w1 ⟨rfl, hb1⟩
    go_wp2_with fail
    go_ret
    exact ⟨rfl, hb1⟩
theorem told_anz (n : Int) (l : List Two) (prs : List Int) (G : List Nat) (E : Value) (no at_ : Int) (w : World) (hans : Anz n l prs G E no at_) (hg : Laid w) :
    Calls Tryd.prog 11 #[E, .int .i64 no, .int .i64 0, .int .i64 at_] w fun e w' => e = .returned (.bool true) ∧ Below w.heap.size w w' := by
  cases hans with
  | neg _ => exact told_wrong 1 (by simp) w hg
  | many _ => exact told_wrong 5 (by simp) w hg
  | short _ _ _ => exact told_wrong 2 (by simp) w hg
  | long _ _ _ => exact told_wrong 3 (by simp) w hg
  | lost i hi h0 h1 hs hgo hbad => exact told_any n l [] (fault 10 0 i) 10 i w (.lost i hi h0 h1 hgo hbad) hg
  | loop _ _ _ _ _ => exact told_wrong 12 (by simp) w hg
  | fine h0 h1 hs hf heq => exact told_any n l _ .nilIface 0 0 w (.fine h0 h1 hf) hg
end Grp
end Go.Proofs.YtgmanmbicoofgaaDoor
