/- iface's walk, writing: truths, and what is made of several things: walked. Conditions: what is written fits, there is room. -/
import Derived.Test.YtjanbpchedgoiaaGreatKT18
set_option linter.unusedVariables false
set_option linter.unusedSimpArgs false
set_option maxRecDepth 100000
set_option maxHeartbeats 32000000
namespace Go.Proofs.YtjanbpchedgoiaaGreat
open Go.RowKit
theorem four_len (n : Int) : (fourL n).length = 4 := numL_len _ _
theorem number_q (b : Nat) (p : Addr) (s : ByteArray) (w : World) (hb : Wlk w b s false) (hp : p.block ≠ b) (n : Int) (hn : smB n = true) (hroom : s.size + (fourL n).length ≤ maxLen) (ct : Own w p (.int .i64 n)) :
  Calls Tryz.prog 81 #[.pointer (some ⟨b, 0, none⟩), .pointer (some p)] w (EncQ b s (fourL n) false w) := number_w b p s false w hb hp n hn (by rw [four_len] at hroom; exact hroom) ct
theorem place_q (b : Nat) (p : Addr) (s : ByteArray) (w : World) (hb : Wlk w b s false) (hp : p.block ≠ b) (n : Int) (hn : smB n = true) (hroom : s.size + (fourL n).length ≤ maxLen) (ct : Own w p (.int .i64 n)) :
  Calls Tryz.prog 62 #[.pointer (some ⟨b, 0, none⟩), .pointer (some p)] w (EncQ b s (fourL n) false w) := place_w b p s false w hb hp n hn (by rw [four_len] at hroom; exact hroom) ct
theorem byte_q (b : Nat) (p : Addr) (s : ByteArray) (w : World) (hb : Wlk w b s false) (hp : p.block ≠ b) (n : Int) (hn : 0 ≤ n ∧ n ≤ 255) (hroom : s.size + (numL n.toNat 1).length ≤ maxLen) (ct : Own w p (.int .u8 n)) :
  Calls Tryz.prog 61 #[.pointer (some ⟨b, 0, none⟩), .pointer (some p)] w (EncQ b s (numL n.toNat 1) false w) := byte_w b p s false w hb hp n hn.1 hn.2 (by rw [numL_len] at hroom; exact hroom) ct
theorem tru_eq (t : Bool) : truL t = numL (if t then 1 else 0) 1 := by cases t <;> rfl
theorem truth_q (b : Nat) (p : Addr) (s : ByteArray) (w : World) (hb : Wlk w b s false) (hp : p.block ≠ b) (t : Bool) (hroom : s.size + (truL t).length ≤ maxLen) (ct : Own w p (.bool t)) :
  Calls Tryz.prog 89 #[.pointer (some ⟨b, 0, none⟩), .pointer (some p)] w (EncQ b s (truL t) false w) := by
 have hbl := hb.lt
 have hpl := ct.lt
 have key : ∀ m : Nat, m ≤ 1 → s.size + 1 ≤ maxLen → ∀ W, Blk W w.heap.size 5 #[.int .u8 (m : Int)] → Wlk W b s false → Calls Tryz.prog 61 #[.pointer (some ⟨b, 0, none⟩), .pointer (some ⟨w.heap.size, 0, none⟩)] W (EncQ b s (numL m 1) false W) := fun m hm hr W nb hw => by
  have := byte_w b ⟨w.heap.size, 0, none⟩ s false W hw (by show w.heap.size ≠ b; omega) (m : Int) (by omega) (by omega) hr ⟨nb.cell 0, nb.frozen 0⟩
  rwa [Int.toNat_natCast] at this
 have hrm : s.size + 1 ≤ maxLen := by
  rw [tru_eq, numL_len] at hroom
  exact hroom
 have c0 := ct.cell
 have CT := qh ct
 have HB := qh hb
 cases t
 ·have nb := Blk.new w 5 #[.int .u8 0]
  have h := key 0 (by decide) hrm _ nb (hb.alloc _)
  have H := qh h
  have NB := qh nb
  have RA := qh ((Wr.refl [] w).alloc (.cells #[.int .u8 0] 5))
  clear key h hb ct nb hroom hrm
  go_enter Tryz.func89, Tryz.ntmps89
  go_wp2_with fail
  refine H.out.mono ?_
  rintro e w1 ⟨rfl, r1, b1⟩
  have r2 : Wr [b] w w1 := RA.out.nil.trans r1
  have ct1 := CT.out.keep r2 (by simpa using hp)
  have n1 := NB.out.wr r1 (by simp; omega)
  have cn := n1.cell 0
  have c1 := ct1.cell
  have f1 := ct1.frozen
  have k2 := b1.cell 2
  have q2 := b1.frozen 2
  simp only [qgaq, qgzq, qgsq] at cn k2
  clear c0 n1
  have E1 := setCell_self k2
  have E2 := qh (setCell_self c1)
  go_wp2_with fail
  refine bodyPost_end (results_none Tryz.results89 _ _ _) rfl ?_
  rw [E2.out, tru_eq]
  exact ⟨rfl, r2, b1⟩
 ·have nb := Blk.new w 5 #[.int .u8 1]
  have h := key 1 (by decide) hrm _ nb (hb.alloc _)
  have H := qh h
  have NB := qh nb
  have RA := qh ((Wr.refl [] w).alloc (.cells #[.int .u8 1] 5))
  clear key h hb ct nb hroom hrm
  go_enter Tryz.func89, Tryz.ntmps89
  go_wp2_with fail
  refine H.out.mono ?_
  rintro e w1 ⟨rfl, r1, b1⟩
  have r2 : Wr [b] w w1 := RA.out.nil.trans r1
  have ct1 := CT.out.keep r2 (by simpa using hp)
  have n1 := NB.out.wr r1 (by simp; omega)
  have cn := n1.cell 0
  have c1 := ct1.cell
  have f1 := ct1.frozen
  have k2 := b1.cell 2
  have q2 := b1.frozen 2
  simp only [qgaq, qgzq, qgsq] at cn k2
  clear c0 n1
  have E1 := setCell_self k2
  have E2 := qh (setCell_self c1)
  go_wp2_with fail
  refine bodyPost_end (results_none Tryz.results89 _ _ _) rfl ?_
  rw [E2.out, tru_eq]
  exact ⟨rfl, r2, b1⟩
theorem fld_w (b q g o : Nat) (x : Fld) (s : ByteArray) (w : World) (hb : Wlk w b s false) (hq : w.cell? ⟨q, 0, none⟩ = some (.pointer (some ⟨b, 0, none⟩))) (hqb : q ≠ b) (hgb : g ≠ b) (hc : ∀ j u, (x.cells)[j]? = some u → Own w ⟨g, o + j, none⟩ u) (hf : x.name.size ≤ 255 ∧ smB x.type = true ∧ smB x.arm = true) (hroom : s.size + (fldL x).length ≤ maxLen) :
  Calls Tryz.prog 84 #[.pointer (some ⟨g, o, none⟩), .pointer (some ⟨q, 0, none⟩)] w (EncQ b s (fldL x) false w) := by
 have heq : fldL x = textL x.name ++ (fourL x.type ++ (fourL x.arm)) := by simp only [fldL, qapq]
 have EQ := qh heq
 rw [heq] at hroom
 simp only [qlaq] at hroom
 have h0 := fun W s' (r : Wr [b] w W) hb hr => text_w b ⟨g, o, none⟩ s' x.name false hf.1 hr W hb (Own.keep (hc 0 _ rfl) r (by simp [hgb])).cell hgb
 have H0 := qh h0
 have h1 := fun W s' (r : Wr [b] w W) hb hr => place_q b ⟨g, o + 1, none⟩ s' W hb hgb x.type hf.2.1 hr (Own.keep (hc 1 _ rfl) r (by simp [hgb]))
 have H1 := qh h1
 have h2 := fun W s' (r : Wr [b] w W) hb hr => place_q b ⟨g, o + 2, none⟩ s' W hb hgb x.arm hf.2.2 hr (Own.keep (hc 2 _ rfl) r (by simp [hgb]))
 have H2 := qh h2
 have HRM := qh hroom
 have CH := qh hq
 have acc : Wr [b] w w := Wr.refl _ _
 clear h0 h1 h2 hq hc hroom heq
 go_enter Tryz.func84, Tryz.ntmps84
 go_wp2_with fail
 have ch := acc.cellOf CH.out (by simp [hqb])
 go_still_tail 4, (by kernel_rfl)
 change wpList _ _ _ _ _ w.drew
 replace acc := acc.drew
 replace hb := Blk.drew hb
 clear ch
 generalize w.drew = wa0 at *
 go_wp2_with fail
 refine (H0.out _ _ acc hb (by have := HRM.out; (try simp only [addL_size, qlaq]); omega)).mono ?_
 rintro e w1 ⟨rfl, r1, hb1⟩
 replace acc := acc.trans r1
 clear hb r1
 rename Wlk w1 b _ false => hb
 go_wp2_with fail
 have ch := acc.cellOf CH.out (by simp [hqb])
 go_still_tail 4, (by kernel_rfl)
 change wpList _ _ _ _ _ w1.drew
 replace acc := acc.drew
 replace hb := Blk.drew hb
 clear ch
 generalize w1.drew = wa1 at *
 go_wp2_with fail
 refine (H1.out _ _ acc hb (by have := HRM.out; (try simp only [addL_size, qlaq]); omega)).mono ?_
 rintro e w2 ⟨rfl, r2, hb2⟩
 replace acc := acc.trans r2
 clear hb r2
 rename Wlk w2 b _ false => hb
 go_wp2_with fail
 have ch := acc.cellOf CH.out (by simp [hqb])
 go_still_tail 4, (by kernel_rfl)
 change wpList _ _ _ _ _ w2.drew
 replace acc := acc.drew
 replace hb := Blk.drew hb
 clear ch
 generalize w2.drew = wa2 at *
 go_wp2_with fail
 refine (H2.out _ _ acc hb (by have := HRM.out; (try simp only [addL_size, qlaq]); omega)).mono ?_
 rintro e w3 ⟨rfl, r3, hb3⟩
 replace acc := acc.trans r3
 clear hb r3
 rename Wlk w3 b _ false => hb
 go_wp2_with fail
 refine bodyPost_end (results_none Tryz.results84 _ _ _) rfl ?_
 refine ⟨rfl, acc, ?_⟩
 simp only [addL_add] at hb
 have e : fldL x = textL x.name ++ (fourL x.type ++ (fourL x.arm)) := EQ.out
 rw [e]
 simpa only [qapq] using hb
theorem par_w (b q g o : Nat) (x : Par) (s : ByteArray) (w : World) (hb : Wlk w b s false) (hq : w.cell? ⟨q, 0, none⟩ = some (.pointer (some ⟨b, 0, none⟩))) (hqb : q ≠ b) (hgb : g ≠ b) (hc : ∀ j u, (x.cells)[j]? = some u → Own w ⟨g, o + j, none⟩ u) (hf : smB x.type = true) (hroom : s.size + (parL x).length ≤ maxLen) :
  Calls Tryz.prog 88 #[.pointer (some ⟨g, o, none⟩), .pointer (some ⟨q, 0, none⟩)] w (EncQ b s (parL x) false w) := by
 have heq : parL x = truL x.var ++ (fourL x.type) := by simp only [parL, qapq]
 have EQ := qh heq
 rw [heq] at hroom
 simp only [qlaq] at hroom
 have h0 := fun W s' (r : Wr [b] w W) hb hr => truth_q b ⟨g, o, none⟩ s' W hb hgb x.var hr (Own.keep (hc 0 _ rfl) r (by simp [hgb]))
 have H0 := qh h0
 have h1 := fun W s' (r : Wr [b] w W) hb hr => place_q b ⟨g, o + 1, none⟩ s' W hb hgb x.type hf hr (Own.keep (hc 1 _ rfl) r (by simp [hgb]))
 have H1 := qh h1
 have HRM := qh hroom
 have CH := qh hq
 have acc : Wr [b] w w := Wr.refl _ _
 clear h0 h1 hq hc hroom heq
 go_enter Tryz.func88, Tryz.ntmps88
 go_wp2_with fail
 have ch := acc.cellOf CH.out (by simp [hqb])
 go_still_tail 4, (by kernel_rfl)
 change wpList _ _ _ _ _ w.drew
 replace acc := acc.drew
 replace hb := Blk.drew hb
 clear ch
 generalize w.drew = wa0 at *
 go_wp2_with fail
 refine (H0.out _ _ acc hb (by have := HRM.out; (try simp only [addL_size, qlaq]); omega)).mono ?_
 rintro e w1 ⟨rfl, r1, hb1⟩
 replace acc := acc.trans r1
 clear hb r1
 rename Wlk w1 b _ false => hb
 go_wp2_with fail
 have ch := acc.cellOf CH.out (by simp [hqb])
 go_still_tail 4, (by kernel_rfl)
 change wpList _ _ _ _ _ w1.drew
 replace acc := acc.drew
 replace hb := Blk.drew hb
 clear ch
 generalize w1.drew = wa1 at *
 go_wp2_with fail
 refine (H1.out _ _ acc hb (by have := HRM.out; (try simp only [addL_size, qlaq]); omega)).mono ?_
 rintro e w2 ⟨rfl, r2, hb2⟩
 replace acc := acc.trans r2
 clear hb r2
 rename Wlk w2 b _ false => hb
 go_wp2_with fail
 refine bodyPost_end (results_none Tryz.results88 _ _ _) rfl ?_
 refine ⟨rfl, acc, ?_⟩
 simp only [addL_add] at hb
 have e : parL x = truL x.var ++ (fourL x.type) := EQ.out
 rw [e]
 simpa only [qapq] using hb
def RowW (w : World) (b size : Nat) (v : Value) (n : Nat) (xs : List Value) : Prop :=
 ∃ (A : Option Addr) (c : Nat), v = .slice A n c ∧ n ≤ c ∧ c ≤ maxLen ∧ xs.length = n * size ∧ ∀ (j : Nat) (u : Value), xs[j]? = some u → ∃ g off, A = some ⟨g, off, none⟩ ∧ g ≠ b ∧ Own w ⟨g, off + j, none⟩ u
section
variable {w w' : World} {b size n : Nat} {v : Value} {xs : List Value}
theorem RowW.keep (h : RowW w b size v n xs) (r : Wr [b] w w') : RowW w' b size v n xs := by
 obtain ⟨A, c, e, h1, h2, h3, h4⟩ := h
 refine ⟨A, c, e, h1, h2, h3, fun j u hj => ?_⟩
 obtain ⟨g, off, e1, hg, ho⟩ := h4 j u hj
 exact ⟨g, off, e1, hg, ho.keep r (by simpa using hg)⟩
theorem RowW.form (h : RowW w b size v n xs) : ∃ A c, v = .slice A n c ∧ n ≤ c ∧ c ≤ maxLen := by
 obtain ⟨A, c, e, h1, h2, h3, h4⟩ := h
 exact ⟨A, c, e, h1, h2⟩
theorem RowW.thing (h : RowW w b size v n xs) (hs : 0 < size) {i : Nat} (hi : i < n) : ∃ g off c, v = .slice (some ⟨g, off, none⟩) n c ∧ g ≠ b ∧ ∀ j u, j < size → xs[i * size + j]? = some u → Own w ⟨g, off + i * size + j, none⟩ u := by
 obtain ⟨A, c, e, h1, h2, h3, h4⟩ := h
 have h0 : 0 < xs.length := by rw [h3]; exact Nat.mul_pos (by omega) hs
 obtain ⟨g, off, rfl, hg, ho⟩ := h4 0 xs[0] (qgeq h0)
 refine ⟨g, off, c, e, hg, fun j u hj hu => ?_⟩
 obtain ⟨g', off', e', hg', ho'⟩ := h4 _ u hu
 injection e' with e'
 injection e' with e1 e2
 subst e1 e2
 rw [Nat.add_assoc]
 exact ho'
theorem RowW.ofOwn {base : Nat} {e : TypeId} (h : w.ownsRow base e size v n xs) (hb : v.ownBlock ≠ some b) : RowW w b size v n xs := by
 have hl := h.1
 rcases h.2 with ⟨rfl, rfl⟩ | ⟨g, cap, cur, rfl, hg, hh, hn, hc, hs, ht⟩
 ·have hx : xs = [] := List.eq_nil_of_length_eq_zero (by simpa using hl)
  subst hx
  exact ⟨none, 0, rfl, Nat.le_refl _, by simp, hl, fun j u h => by simp at h⟩
 ·refine ⟨_, cap, rfl, hn, hc, hl, fun j u hj => ⟨g, 0, rfl, fun e => hb (by rw [← e]; rfl), ?_⟩⟩
  have := h.cells (g := g) rfl j u hj
  rw [Addr.add_lit] at this
  exact ⟨this, Blk.frozen (show Blk w g e cur from hh) _⟩
end
theorem use_w1 (b q g o m : Nat) (hm : m < 2 ^ 64) (name : ByteArray) (s : ByteArray) (w : World) (hb : Wlk w b s false) (hq : w.cell? ⟨q, 0, none⟩ = some (.pointer (some ⟨b, 0, none⟩))) (hqb : q ≠ b) (hgb : g ≠ b) (k0 : Own w ⟨g, o, none⟩ (.string name)) (k1 : Own w ⟨g, o + 1, none⟩ (.int .u64 (m : Int))) (hf : name.size ≤ 255) (hroom : s.size + ((textL name).length + (numL m 8).length) ≤ maxLen) :
  Calls Tryz.prog 55 #[.pointer (some ⟨g, o, none⟩), .pointer (some ⟨q, 0, none⟩)] w (EncQ b s (textL name ++ numL m 8) false w) := by
 have h0 := fun W s' (r : Wr [b] w W) hb hr => text_w b ⟨g, o, none⟩ s' name false hf hr W hb (k0.keep r (by simp [hgb])).cell hgb
 have h1 := fun W s' (hb : Wlk W b s' false) hr => bytes_w b s' false W hb m 8 hm (by decide) hr
 have H0 := qh h0
 have H1 := qh h1
 have HRM := qh hroom
 have CH := qh hq
 have K1 := qh k1
 have acc : Wr [b] w w := Wr.refl _ _
 clear h0 h1 hq k0 k1 hroom hm
 go_enter Tryz.func55, Tryz.ntmps55
 go_wp2_with fail
 have ch := acc.cellOf CH.out (by simp [hqb])
 go_still_tail 4, (by kernel_rfl)
 change wpList _ _ _ _ _ w.drew
 replace acc := acc.drew
 replace hb := Blk.drew hb
 clear ch
 generalize w.drew = wa0 at *
 go_wp2_with fail
 refine (H0.out _ _ acc hb (by have := HRM.out; omega)).mono ?_
 rintro e w1 ⟨rfl, r1, hb1⟩
 replace acc := acc.trans r1
 clear hb r1
 go_upto_region 1 with (fail)
 have c0 := acc.cellOf CH.out (by simp [hqb])
 have c1 := acc.cellOf K1.out.cell (by simp [hgb])
 have hC : ∀ W, Wr [b] w1 W → W.cell? ⟨q, 0, none⟩ = some (.pointer (some ⟨b, 0, none⟩)) ∧ W.cell? ⟨g, o + 1, none⟩ = some (.int .u64 (m : Int)) := fun W hW => ⟨hW.cellOf c0 (by simp [hqb]), hW.cellOf c1 (by simp [hgb])⟩
 have HC := qh hC
 clear hC
 refine wp_region_noPanic ?_
 refine wp_region_L (Until 9 fun w' => w'.cell? ⟨q, 0, none⟩ = some (.pointer (some ⟨b, 0, none⟩)) ∧ w'.cell? ⟨g, o + 1, none⟩ = some (.int .u64 (m : Int))) (by kernel_rfl) (fun hcl => ?_)
 have hS : Until 9 (fun w' => w'.cell? ⟨q, 0, none⟩ = some (.pointer (some ⟨b, 0, none⟩)) ∧ w'.cell? ⟨g, o + 1, none⟩ = some (.int .u64 (m : Int))) (Array.replicate 10 false) w1.drew := fun _ => ⟨c0, c1⟩
 refine wpAnyL_take (i := 0) (oi := ?oi1) (v := ?v1) ?hi1 (by kernel_rfl) (by kernel_rfl) (by kernel_rfl) (fun _ _ _ h => h) (until_take 9 _ (by decide)) ?hy1 hcl hS ?rest1
 case hi1 =>
  simp only [qgaq, qgsq, qgzq]
  rfl
 case hy1 =>
  refine yields_until (by kernel_rfl) (Or.inl ⟨by rfl, fun w' hS => ?_⟩)
  try go_split_ands
  go_simp
  try rfl
 case rest1 =>
 intro hcl1 hS1
 clear hcl hS
 try simp only [Act.put, qsaq, qszq, qssq]
 refine wpAnyL_take (i := 1) (oi := ?oi2) (v := ?v2) ?hi2 (by kernel_rfl) (by kernel_rfl) (by kernel_rfl) (fun _ _ _ h => h) (until_take 9 _ (by decide)) ?hy2 hcl1 hS1 ?rest2
 case hi2 =>
  simp only [qgaq, qgsq, qgzq]
  rfl
 case hy2 =>
  refine yields_until (by kernel_rfl) (Or.inl ⟨by rfl, fun w' hS => ?_⟩)
  try go_split_ands
  go_simp
  try rfl
 case rest2 =>
 intro hcl2 hS2
 clear hcl1 hS1
 try simp only [Act.put, qsaq, qszq, qssq]
 refine wpAnyL_take (i := 2) (oi := ?oi3) (v := ?v3) ?hi3 (by kernel_rfl) (by kernel_rfl) (by kernel_rfl) (fun _ _ _ h => h) (until_take 9 _ (by decide)) ?hy3 hcl2 hS2 ?rest3
 case hi3 =>
  simp only [qgaq, qgsq, qgzq]
  rfl
 case hy3 =>
  refine yields_until (by kernel_rfl) (Or.inl ⟨by rfl, fun w' hS => ?_⟩)
  try go_split_ands
  go_simp
  try rfl
 case rest3 =>
 intro hcl3 hS3
 clear hcl2 hS2
 try simp only [Act.put, qsaq, qszq, qssq]
 refine wpAnyL_take (i := 3) (oi := ?oi4) (v := ?v4) ?hi4 (by kernel_rfl) (by kernel_rfl) (by kernel_rfl) (fun _ _ _ h => h) (until_take 9 _ (by decide)) ?hy4 hcl3 hS3 ?rest4
 case hi4 =>
  simp only [qgaq, qgsq, qgzq]
  rfl
 case hy4 =>
  refine yields_until (by kernel_rfl) (Or.inl ⟨by rfl, fun w' hS => ?_⟩)
  try go_split_ands
  go_simp
  try rfl
 case rest4 =>
 intro hcl4 hS4
 clear hcl3 hS3
 try simp only [Act.put, qsaq, qszq, qssq]
 refine wpAnyL_take (i := 4) (oi := ?oi5) (v := ?v5) ?hi5 (by kernel_rfl) (by kernel_rfl) (by kernel_rfl) (fun _ _ _ h => h) (until_take 9 _ (by decide)) ?hy5 hcl4 hS4 ?rest5
 case hi5 =>
  simp only [qgaq, qgsq, qgzq]
  rfl
 case hy5 =>
  refine yields_until (by kernel_rfl) (Or.inl ⟨by rfl, fun w' hS => ?_⟩)
  try go_split_ands
  go_simp
  try rfl
 case rest5 =>
 intro hcl5 hS5
 clear hcl4 hS4
 try simp only [Act.put, qsaq, qszq, qssq]
 refine wpAnyL_take (i := 5) (oi := ?oi6) (v := ?v6) ?hi6 (by kernel_rfl) (by kernel_rfl) (by kernel_rfl) (fun _ _ _ h => h) (until_take 9 _ (by decide)) ?hy6 hcl5 hS5 ?rest6
 case hi6 =>
  simp only [qgaq, qgsq, qgzq]
  rfl
 case hy6 =>
  refine yields_until (by kernel_rfl) (Or.inl ⟨by rfl, fun w' hS => ?_⟩)
  try go_split_ands
  go_simp
  try rfl
 case rest6 =>
 intro hcl6 hS6
 clear hcl5 hS5
 try simp only [Act.put, qsaq, qszq, qssq]
 refine wpAnyL_step (i := 6) (o := ?oi7) ?hi7 (by kernel_rfl) hcl6 ?rest7
 case hi7 =>
  simp only [qgaq, qgsq, qgzq]
  rfl
 case rest7 =>
 intro K hK
 go_simp
 refine (H1.out _ _ (Blk.drew hb1) (by have := HRM.out; (try simp only [addL_size]); rw [numL_len] at this; omega)).mono ?_
 rintro e w2 ⟨rfl, r2, hb2⟩
 have own2 := (K1.out.keep (acc.drew.trans r2) (by simp [hgb]))
 have o2 := own2.cell
 have f2 := own2.frozen
 refine hK _ _ (fun _ => HC.out _ ((Wr.refl [b] w1).drew.trans r2)) (fun hcl7 => ?_)
 clear hK K hcl6 hS6
 try simp only [Act.put, qsaq, qszq, qssq]
 refine wpAnyL_step (i := 7) (o := ?oi8) ?hi8 (by kernel_rfl) hcl7 ?rest8
 case hi8 =>
  simp only [qgaq, qgsq, qgzq]
  rfl
 case rest8 =>
 intro K hK
 go_simp
 refine hK _ _ (fun _ => HC.out _ ((Wr.refl [b] w1).drew.trans r2)) (fun hcl8 => ?_)
 clear hK K hcl7
 try simp only [Act.put, qsaq, qszq, qssq]
 refine wpAnyL_step (i := 8) (o := ?oi9) ?hi9 (by kernel_rfl) hcl8 ?rest9
 case hi9 =>
  simp only [qgaq, qgsq, qgzq]
  rfl
 case rest9 =>
 intro K hK
 go_simp
 refine hK _ _ (fun _ => HC.out _ ((Wr.refl [b] w1).drew.trans r2)) (fun hcl9 => ?_)
 clear hK K hcl8
 try simp only [Act.put, qsaq, qszq, qssq]
 refine wpAnyL_step (i := 9) (o := ?oi10) ?hi10 (by kernel_rfl) hcl9 ?rest10
 case hi10 =>
  simp only [qgaq, qgsq, qgzq]
  rfl
 case rest10 =>
 intro K hK
 go_simp
 refine hK _ _ (fun hb => absurd hb (by decide)) (fun hcl999 => ?_)
 clear hK K hcl9
 refine wpAnyL_done (by kernel_rfl) (NoPanic.normal ?_) _
 try simp only [Act.put, qsaq, qszq, qssq]
 go_wp2_with fail
 refine bodyPost_end (results_none Tryz.results55 _ _ _) rfl ?_
 rw [setCell_self o2]
 refine ⟨rfl, acc.drew.trans r2, ?_⟩
 rw [addL_add] at hb2
 exact hb2
end Go.Proofs.YtjanbpchedgoiaaGreat
