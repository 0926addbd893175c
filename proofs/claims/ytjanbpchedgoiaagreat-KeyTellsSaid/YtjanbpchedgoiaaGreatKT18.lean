/- iface's walk, writing: numbers, bytes, truths: walked. Conditions: each is within its kind, there is room. -/
import Derived.Test.YtjanbpchedgoiaaGreatKT17
import Derived.Laws.Bits64b
set_option linter.unusedVariables false
set_option linter.unusedSimpArgs false
set_option maxRecDepth 100000
set_option maxHeartbeats 32000000
namespace Go.Proofs.YtjanbpchedgoiaaGreat
open Go.RowKit
def nat4 (n : Int) : Nat := (n % 4294967296).toNat
theorem nat4_lt (n : Int) : nat4 n < 4294967296 := by unfold nat4; omega
theorem u64_wrap (n : Int) : IntKind.u64.wrap n = (((n % 18446744073709551616).toNat : Nat) : Int) := by rw [IntKind.wrap_u64]; omega
theorem and4 (n : Int) : bits .and .u64 (IntKind.u64.wrap n) 4294967295 = ((nat4 n : Nat) : Int) := by
 rw [u64_wrap]
 have h := bits_and_u64_nat (n % 18446744073709551616).toNat 4294967295 (by omega) (by omega)
 rw [show ((4294967295 : Nat) : Int) = 4294967295 from rfl] at h
 rw [h, show (4294967295 : Nat) = 2 ^ 32 - 1 from rfl, Nat.and_two_pow_sub_one_eq_mod]
 unfold nat4
 omega
theorem back4 (n : Int) (h : smB n = true) : wrap64 (wrap32 ((nat4 n : Nat) : Int)) = n := by
 have := smB_iff.1 h
 unfold wrap64 wrap32 nat4
 omega
section
variable (b : Nat) (p : Addr) (s : ByteArray) (bad : Bool) (w : World) (hb : Wlk w b s bad) (hp : p.block ≠ b)
include hb
theorem bytes_w (n size : Nat) (hn : n < 2 ^ 64) (hs : size ≤ 8) (hroom : s.size + size ≤ maxLen) :
  Calls Tryz.prog 56 #[.pointer (some ⟨b, 0, none⟩), .int .u64 (n : Int), .int .i64 (size : Int)] w fun e w' => e = .returned (.int .u64 (n : Int)) ∧ Wr [b] w w' ∧ Wlk w' b (addL s (numL n size)) bad := by
 refine (bytes_any b n size s bad hn hs hroom w hb).mono ?_
 rintro e w' ⟨h1, h2, h3⟩
 rw [bytesN_all] at h3
 exact ⟨h1, h2, h3⟩
include hp
theorem number_w (n : Int) (hn : smB n = true) (hroom : s.size + 4 ≤ maxLen) (ct : Own w p (.int .i64 n)) :
  Calls Tryz.prog 81 #[.pointer (some ⟨b, 0, none⟩), .pointer (some p)] w (EncQ b s (fourL n) bad w) := by
 have h := bytes_w b s bad w hb (nat4 n) 4 (by have := nat4_lt n; omega) (by omega) hroom
 have e1 := and4 n
 have e2 := back4 n hn
 have c0 := ct.cell
 have H := qh h
 have CT := qh ct
 clear h hb ct hn
 go_enter Tryz.func81, Tryz.ntmps81
 go_wp2_with fail
 refine H.out.mono ?_
 rintro e w1 ⟨rfl, r1, b1⟩
 have ct1 := CT.out.keep r1 (by simpa using hp)
 have c1 := ct1.cell
 have f1 := ct1.frozen
 clear c0
 go_wp2_with fail
 refine bodyPost_end (results_none Tryz.results81 _ _ _) rfl ?_
 rw [setCell_self c1]
 exact ⟨rfl, r1, b1⟩
theorem place_w (n : Int) (hn : smB n = true) (hroom : s.size + 4 ≤ maxLen) (ct : Own w p (.int .i64 n)) :
  Calls Tryz.prog 62 #[.pointer (some ⟨b, 0, none⟩), .pointer (some p)] w (EncQ b s (fourL n) bad w) := by
 have hbl := hb.lt
 have hpl := ct.lt
 have nb := Blk.new w 2 #[.int .i64 n]
 have ra : Wr [] w (w.alloc (.cells #[.int .i64 n] 2)) := (Wr.refl _ _).alloc _
 have on : Own (w.alloc (.cells #[.int .i64 n] 2)) ⟨w.heap.size, 0, none⟩ (.int .i64 n) := ⟨nb.cell 0, nb.frozen 0⟩
 have h := number_w b ⟨w.heap.size, 0, none⟩ s bad _ (hb.alloc (.cells #[.int .i64 n] 2)) (by show w.heap.size ≠ b; omega) n hn hroom on
 have c0 := ct.cell
 have e64 : wrap64 n = n := by have := smB_iff.1 hn; unfold wrap64; omega
 have H := qh h
 have CT := qh ct
 have ON := qh on
 have RA := qh ra
 clear h hb ct hn on nb ra
 go_enter Tryz.func62, Tryz.ntmps62
 go_wp2_with fail
 refine H.out.mono ?_
 rintro e w1 ⟨rfl, r1, b1⟩
 have r2 : Wr [b] w w1 := RA.out.nil.trans r1
 have ct1 := CT.out.keep r2 (by simpa using hp)
 have cn := (ON.out.keep r1 (by simp; omega)).cell
 have c1 := ct1.cell
 have f1 := ct1.frozen
 clear c0
 go_wp2_with fail
 refine bodyPost_end (results_none Tryz.results62 _ _ _) rfl ?_
 rw [setCell_self c1]
 exact ⟨rfl, r2, b1⟩
theorem byte_w (n : Int) (h0 : 0 ≤ n) (h1 : n ≤ 255) (hroom : s.size + 1 ≤ maxLen) (ct : Own w p (.int .u8 n)) :
  Calls Tryz.prog 61 #[.pointer (some ⟨b, 0, none⟩), .pointer (some p)] w (EncQ b s (numL n.toNat 1) bad w) := by
 obtain ⟨m, rfl⟩ : ∃ m : Nat, n = (m : Int) := ⟨n.toNat, by omega⟩
 have h := bytes_w b s bad w hb m 1 (by omega) (by omega) hroom
 have e1 : IntKind.u64.wrap (m : Int) = (m : Int) := by rw [IntKind.wrap_u64]; omega
 have e2 : IntKind.u8.wrap (m : Int) = (m : Int) := by rw [IntKind.wrap_u8]; omega
 have c0 := ct.cell
 have H := qh h
 have CT := qh ct
 clear h hb ct
 go_enter Tryz.func61, Tryz.ntmps61
 go_wp2_with fail
 refine H.out.mono ?_
 rintro e w1 ⟨rfl, r1, b1⟩
 have ct1 := CT.out.keep r1 (by simpa using hp)
 have c1 := ct1.cell
 have f1 := ct1.frozen
 clear c0
 go_wp2_with fail
 refine bodyPost_end (results_none Tryz.results61 _ _ _) rfl ?_
 rw [setCell_self c1, Int.toNat_natCast]
 exact ⟨rfl, r1, b1⟩
end
theorem flat_split {α : Type} (enc : α → List UInt8) {l : List α} {k : Nat} {x : α} (h : l[k]? = some x) : (l.take (k + 1)).flatMap enc = (l.take k).flatMap enc ++ enc x := by
 have hk := (List.getElem?_eq_some_iff.1 h).1
 have e := (List.getElem?_eq_some_iff.1 h).2
 rw [List.take_succ_eq_append_getElem hk, qfaq, e]
 simp
theorem flat_room {α : Type} (enc : α → List UInt8) {l : List α} {k : Nat} {x : α} (h : l[k]? = some x) : ((l.take k).flatMap enc).length + (enc x).length ≤ (l.flatMap enc).length := by
 have h1 : (l.take (k + 1)).flatMap enc ++ (l.drop (k + 1)).flatMap enc = l.flatMap enc := by rw [← qfaq, List.take_append_drop]
 rw [← h1, flat_split enc h]
 simp only [qlaq]
 omega
theorem count_w (b n : Nat) (s : ByteArray) (bad : Bool) (hn : n ≤ 65535) (hroom : s.size + 2 ≤ maxLen) (w : World) (hb : Wlk w b s bad) :
  Calls Tryz.prog 80 #[.pointer (some ⟨b, 0, none⟩), .int .i64 (n : Int)] w fun e w' => e = .returned (.int .i64 (n : Int)) ∧ Wr [b] w w' ∧ Wlk w' b (addL s (numL n 2)) bad := by
 refine (count_any b n s bad hn hroom w hb).mono ?_
 rintro e w' ⟨h1, h2, h3⟩
 rw [bytesN_all] at h3
 exact ⟨h1, h2, h3⟩
theorem text_w (b : Nat) (p : Addr) (s t : ByteArray) (bad : Bool) (ht : t.size ≤ 255) (hroom : s.size + (textL t).length ≤ maxLen) (w : World) (hb : Wlk w b s bad) (ct : w.cell? p = some (.string t)) (hp : p.block ≠ b) :
  Calls Tryz.prog 53 #[.pointer (some ⟨b, 0, none⟩), .pointer (some p)] w (EncQ b s (textL t) bad w) := by
 have hl : (textL t).length = 1 + t.size := by
  unfold textL
  rw [qlaq, numL_len]
  rfl
 refine (text_any_w b p s t bad ht (by omega) w hb ct hp).mono ?_
 rintro e w' ⟨h1, h2, h3⟩
 rw [textE_all] at h3
 exact ⟨h1, h2, h3⟩
theorem lw_Use {α : Type} (b q : Nat) (p : Addr) (s : ByteArray) (l : List α) (A : Option Addr) (c : Nat) (enc : α → List UInt8) (hn : l.length ≤ 65535) (hc1 : l.length ≤ c) (hc2 : c ≤ maxLen) (hroom : s.size + (numL l.length 2 ++ l.flatMap enc).length ≤ maxLen) (w : World) (hb : Wlk w b s false) (ct : w.cell? p = some (.slice A l.length c)) (hp : p.block ≠ b)
  (hE : ∀ k x, l[k]? = some x → ∃ gb off, A = some ⟨gb, off, none⟩ ∧ ∀ W s', Wr [b] w W → Wlk W b s' false → s'.size + (enc x).length ≤ maxLen → Calls Tryz.prog 55 #[.pointer (some ⟨gb, off + k * 2, none⟩), .pointer (some ⟨q, 0, none⟩)] W (EncQ b s' (enc x) false W)) :
  Calls Tryz.prog 54 #[.pointer (some ⟨b, 0, none⟩), .pointer (some p), .func (.func 55) #[] #[.pointer (some ⟨q, 0, none⟩)]] w (EncQ b s (numL l.length 2 ++ l.flatMap enc) false w) := by
 have hl2 : (numL l.length 2 ++ l.flatMap enc).length = 2 + (l.flatMap enc).length := by rw [qlaq, numL_len]
 rw [hl2] at hroom
 have h := count_w b l.length s false hn (by omega) w hb
 unfold maxLen at hc2
 have H := qh h
 have HE := qh hE
 have CT := qh ct
 have HR := qh hroom
 clear hb h hE hl2 hroom
 go_enter Tryz.func54, Tryz.ntmps54
 go_wp2_with fail
 refine H.out.mono ?_
 rintro e w1 ⟨rfl, r1, b1⟩
 have c0 := b1.cell 0
 have c1 := b1.cell 1
 have c2 := b1.cell 2
 simp only [qgaq, qgzq, qgsq] at c0 c1 c2
 replace ct := r1.cellOf ct (by simp [hp])
 go_wp2_with fail
 go_loopw [46] (fun s46 wr => ∃ k : Nat, k ≤ l.length ∧ s46 = .int .i64 k ∧ Wr [b] w wr ∧ Wlk wr b (addL s (numL l.length 2 ++ (l.take k).flatMap enc)) false) (fun s46 _ => l.length - (intOf s46).toNat)
 case atStart => exact ⟨0, by omega, rfl, r1, by simpa using b1⟩
 case round =>
  obtain ⟨k, hk, rfl, rk, bk⟩ := hrel
  clear c0 c1 c2 ct
  have ct := rk.cellOf CT.out (by simp [hp])
  by_cases hlt : k < l.length
  ·obtain ⟨x, hx⟩ : ∃ x, l[k]? = some x := ⟨_, qgeq hlt⟩
   obtain ⟨gb, off, rfl, hcall⟩ := HE.out k x hx
   have hrm := flat_room enc hx
   have hc := hcall wr _ rk bk (by
    have := HR.out
    rw [addL_size, qlaq, numL_len]
    omega)
   have HC := qh hc
   have RK := qh rk
   have HX := qh hx
   have hlti : (k : Int) < (l.length : Int) := by omega
   have hk0 : (0 : Int) ≤ (k : Int) := by omega
   clear hcall hc rk bk hx hrm
   go_wp2_with fail
   refine HC.out.mono ?_
   rintro e w2 ⟨rfl, r2, b2⟩
   have hb2 : Wlk w2 b (addL s (numL l.length 2 ++ (l.take (k + 1)).flatMap enc)) false := by
    rw [addL_add] at b2
    rw [flat_split enc HX.out, ← qapq]
    exact b2
   have HB2 := qh hb2
   have R2 := qh (RK.out.trans r2)
   clear b2 r2 hb2 ct
   go_wp2_with fail
   go_roundw
   case rel => exact ⟨k + 1, by omega, by go_num, R2.out, HB2.out⟩
   case measure => simp [intOf]; omega
  ·obtain rfl : k = l.length := by omega
   have BK := qh bk
   clear bk
   go_wp2_with fail
   refine bodyPost_end (results_none Tryz.results54 _ _ _) rfl ?_
   have := BK.out
   rw [List.take_length] at this
   exact ⟨rfl, rk, this⟩
theorem lw_Type {α : Type} (b q : Nat) (p : Addr) (s : ByteArray) (l : List α) (A : Option Addr) (c : Nat) (enc : α → List UInt8) (hn : l.length ≤ 65535) (hc1 : l.length ≤ c) (hc2 : c ≤ maxLen) (hroom : s.size + (numL l.length 2 ++ l.flatMap enc).length ≤ maxLen) (w : World) (hb : Wlk w b s false) (ct : w.cell? p = some (.slice A l.length c)) (hp : p.block ≠ b)
  (hE : ∀ k x, l[k]? = some x → ∃ gb off, A = some ⟨gb, off, none⟩ ∧ ∀ W s', Wr [b] w W → Wlk W b s' false → s'.size + (enc x).length ≤ maxLen → Calls Tryz.prog 58 #[.pointer (some ⟨b, 0, none⟩), .pointer (some ⟨gb, off + k * 12, none⟩)] W (EncQ b s' (enc x) false W)) :
  Calls Tryz.prog 57 #[.pointer (some ⟨b, 0, none⟩), .pointer (some p), .func (.func 58) #[.pointer (some ⟨b, 0, none⟩)] #[]] w (EncQ b s (numL l.length 2 ++ l.flatMap enc) false w) := by
 have hl2 : (numL l.length 2 ++ l.flatMap enc).length = 2 + (l.flatMap enc).length := by rw [qlaq, numL_len]
 rw [hl2] at hroom
 have h := count_w b l.length s false hn (by omega) w hb
 unfold maxLen at hc2
 have H := qh h
 have HE := qh hE
 have CT := qh ct
 have HR := qh hroom
 clear hb h hE hl2 hroom
 go_enter Tryz.func57, Tryz.ntmps57
 go_wp2_with fail
 refine H.out.mono ?_
 rintro e w1 ⟨rfl, r1, b1⟩
 have c0 := b1.cell 0
 have c1 := b1.cell 1
 have c2 := b1.cell 2
 simp only [qgaq, qgzq, qgsq] at c0 c1 c2
 replace ct := r1.cellOf ct (by simp [hp])
 go_wp2_with fail
 go_loopw [46] (fun s46 wr => ∃ k : Nat, k ≤ l.length ∧ s46 = .int .i64 k ∧ Wr [b] w wr ∧ Wlk wr b (addL s (numL l.length 2 ++ (l.take k).flatMap enc)) false) (fun s46 _ => l.length - (intOf s46).toNat)
 case atStart => exact ⟨0, by omega, rfl, r1, by simpa using b1⟩
 case round =>
  obtain ⟨k, hk, rfl, rk, bk⟩ := hrel
  clear c0 c1 c2 ct
  have ct := rk.cellOf CT.out (by simp [hp])
  by_cases hlt : k < l.length
  ·obtain ⟨x, hx⟩ : ∃ x, l[k]? = some x := ⟨_, qgeq hlt⟩
   obtain ⟨gb, off, rfl, hcall⟩ := HE.out k x hx
   have hrm := flat_room enc hx
   have hc := hcall wr _ rk bk (by
    have := HR.out
    rw [addL_size, qlaq, numL_len]
    omega)
   have HC := qh hc
   have RK := qh rk
   have HX := qh hx
   have hlti : (k : Int) < (l.length : Int) := by omega
   have hk0 : (0 : Int) ≤ (k : Int) := by omega
   clear hcall hc rk bk hx hrm
   go_wp2_with fail
   refine HC.out.mono ?_
   rintro e w2 ⟨rfl, r2, b2⟩
   have hb2 : Wlk w2 b (addL s (numL l.length 2 ++ (l.take (k + 1)).flatMap enc)) false := by
    rw [addL_add] at b2
    rw [flat_split enc HX.out, ← qapq]
    exact b2
   have HB2 := qh hb2
   have R2 := qh (RK.out.trans r2)
   clear b2 r2 hb2 ct
   go_wp2_with fail
   go_roundw
   case rel => exact ⟨k + 1, by omega, by go_num, R2.out, HB2.out⟩
   case measure => simp [intOf]; omega
  ·obtain rfl : k = l.length := by omega
   have BK := qh bk
   clear bk
   go_wp2_with fail
   refine bodyPost_end (results_none Tryz.results57 _ _ _) rfl ?_
   have := BK.out
   rw [List.take_length] at this
   exact ⟨rfl, rk, this⟩
theorem lw_Export {α : Type} (b q : Nat) (p : Addr) (s : ByteArray) (l : List α) (A : Option Addr) (c : Nat) (enc : α → List UInt8) (hn : l.length ≤ 65535) (hc1 : l.length ≤ c) (hc2 : c ≤ maxLen) (hroom : s.size + (numL l.length 2 ++ l.flatMap enc).length ≤ maxLen) (w : World) (hb : Wlk w b s false) (ct : w.cell? p = some (.slice A l.length c)) (hp : p.block ≠ b)
  (hE : ∀ k x, l[k]? = some x → ∃ gb off, A = some ⟨gb, off, none⟩ ∧ ∀ W s', Wr [b] w W → Wlk W b s' false → s'.size + (enc x).length ≤ maxLen → Calls Tryz.prog 60 #[.pointer (some ⟨gb, off + k * 5, none⟩), .pointer (some ⟨q, 0, none⟩)] W (EncQ b s' (enc x) false W)) :
  Calls Tryz.prog 59 #[.pointer (some ⟨b, 0, none⟩), .pointer (some p), .func (.func 60) #[] #[.pointer (some ⟨q, 0, none⟩)]] w (EncQ b s (numL l.length 2 ++ l.flatMap enc) false w) := by
 have hl2 : (numL l.length 2 ++ l.flatMap enc).length = 2 + (l.flatMap enc).length := by rw [qlaq, numL_len]
 rw [hl2] at hroom
 have h := count_w b l.length s false hn (by omega) w hb
 unfold maxLen at hc2
 have H := qh h
 have HE := qh hE
 have CT := qh ct
 have HR := qh hroom
 clear hb h hE hl2 hroom
 go_enter Tryz.func59, Tryz.ntmps59
 go_wp2_with fail
 refine H.out.mono ?_
 rintro e w1 ⟨rfl, r1, b1⟩
 have c0 := b1.cell 0
 have c1 := b1.cell 1
 have c2 := b1.cell 2
 simp only [qgaq, qgzq, qgsq] at c0 c1 c2
 replace ct := r1.cellOf ct (by simp [hp])
 go_wp2_with fail
 go_loopw [46] (fun s46 wr => ∃ k : Nat, k ≤ l.length ∧ s46 = .int .i64 k ∧ Wr [b] w wr ∧ Wlk wr b (addL s (numL l.length 2 ++ (l.take k).flatMap enc)) false) (fun s46 _ => l.length - (intOf s46).toNat)
 case atStart => exact ⟨0, by omega, rfl, r1, by simpa using b1⟩
 case round =>
  obtain ⟨k, hk, rfl, rk, bk⟩ := hrel
  clear c0 c1 c2 ct
  have ct := rk.cellOf CT.out (by simp [hp])
  by_cases hlt : k < l.length
  ·obtain ⟨x, hx⟩ : ∃ x, l[k]? = some x := ⟨_, qgeq hlt⟩
   obtain ⟨gb, off, rfl, hcall⟩ := HE.out k x hx
   have hrm := flat_room enc hx
   have hc := hcall wr _ rk bk (by
    have := HR.out
    rw [addL_size, qlaq, numL_len]
    omega)
   have HC := qh hc
   have RK := qh rk
   have HX := qh hx
   have hlti : (k : Int) < (l.length : Int) := by omega
   have hk0 : (0 : Int) ≤ (k : Int) := by omega
   clear hcall hc rk bk hx hrm
   go_wp2_with fail
   refine HC.out.mono ?_
   rintro e w2 ⟨rfl, r2, b2⟩
   have hb2 : Wlk w2 b (addL s (numL l.length 2 ++ (l.take (k + 1)).flatMap enc)) false := by
    rw [addL_add] at b2
    rw [flat_split enc HX.out, ← qapq]
    exact b2
   have HB2 := qh hb2
   have R2 := qh (RK.out.trans r2)
   clear b2 r2 hb2 ct
   go_wp2_with fail
   go_roundw
   case rel => exact ⟨k + 1, by omega, by go_num, R2.out, HB2.out⟩
   case measure => simp [intOf]; omega
  ·obtain rfl : k = l.length := by omega
   have BK := qh bk
   clear bk
   go_wp2_with fail
   refine bodyPost_end (results_none Tryz.results59 _ _ _) rfl ?_
   have := BK.out
   rw [List.take_length] at this
   exact ⟨rfl, rk, this⟩
theorem lw_Str {α : Type} (b q : Nat) (p : Addr) (s : ByteArray) (l : List α) (A : Option Addr) (c : Nat) (enc : α → List UInt8) (hn : l.length ≤ 65535) (hc1 : l.length ≤ c) (hc2 : c ≤ maxLen) (hroom : s.size + (numL l.length 2 ++ l.flatMap enc).length ≤ maxLen) (w : World) (hb : Wlk w b s false) (ct : w.cell? p = some (.slice A l.length c)) (hp : p.block ≠ b)
  (hE : ∀ k x, l[k]? = some x → ∃ gb off, A = some ⟨gb, off, none⟩ ∧ ∀ W s', Wr [b] w W → Wlk W b s' false → s'.size + (enc x).length ≤ maxLen → Calls Tryz.prog 53 #[.pointer (some ⟨b, 0, none⟩), .pointer (some ⟨gb, off + k, none⟩)] W (EncQ b s' (enc x) false W)) :
  Calls Tryz.prog 82 #[.pointer (some ⟨b, 0, none⟩), .pointer (some p), .func (.func 53) #[.pointer (some ⟨b, 0, none⟩)] #[]] w (EncQ b s (numL l.length 2 ++ l.flatMap enc) false w) := by
 have hl2 : (numL l.length 2 ++ l.flatMap enc).length = 2 + (l.flatMap enc).length := by rw [qlaq, numL_len]
 rw [hl2] at hroom
 have h := count_w b l.length s false hn (by omega) w hb
 unfold maxLen at hc2
 have H := qh h
 have HE := qh hE
 have CT := qh ct
 have HR := qh hroom
 clear hb h hE hl2 hroom
 go_enter Tryz.func82, Tryz.ntmps82
 go_wp2_with fail
 refine H.out.mono ?_
 rintro e w1 ⟨rfl, r1, b1⟩
 have c0 := b1.cell 0
 have c1 := b1.cell 1
 have c2 := b1.cell 2
 simp only [qgaq, qgzq, qgsq] at c0 c1 c2
 replace ct := r1.cellOf ct (by simp [hp])
 go_wp2_with fail
 go_loopw [46] (fun s46 wr => ∃ k : Nat, k ≤ l.length ∧ s46 = .int .i64 k ∧ Wr [b] w wr ∧ Wlk wr b (addL s (numL l.length 2 ++ (l.take k).flatMap enc)) false) (fun s46 _ => l.length - (intOf s46).toNat)
 case atStart => exact ⟨0, by omega, rfl, r1, by simpa using b1⟩
 case round =>
  obtain ⟨k, hk, rfl, rk, bk⟩ := hrel
  clear c0 c1 c2 ct
  have ct := rk.cellOf CT.out (by simp [hp])
  by_cases hlt : k < l.length
  ·obtain ⟨x, hx⟩ : ∃ x, l[k]? = some x := ⟨_, qgeq hlt⟩
   obtain ⟨gb, off, rfl, hcall⟩ := HE.out k x hx
   have hrm := flat_room enc hx
   have hc := hcall wr _ rk bk (by
    have := HR.out
    rw [addL_size, qlaq, numL_len]
    omega)
   have HC := qh hc
   have RK := qh rk
   have HX := qh hx
   have hlti : (k : Int) < (l.length : Int) := by omega
   have hk0 : (0 : Int) ≤ (k : Int) := by omega
   clear hcall hc rk bk hx hrm
   go_wp2_with fail
   refine HC.out.mono ?_
   rintro e w2 ⟨rfl, r2, b2⟩
   have hb2 : Wlk w2 b (addL s (numL l.length 2 ++ (l.take (k + 1)).flatMap enc)) false := by
    rw [addL_add] at b2
    rw [flat_split enc HX.out, ← qapq]
    exact b2
   have HB2 := qh hb2
   have R2 := qh (RK.out.trans r2)
   clear b2 r2 hb2 ct
   go_wp2_with fail
   go_roundw
   case rel => exact ⟨k + 1, by omega, by go_num, R2.out, HB2.out⟩
   case measure => simp [intOf]; omega
  ·obtain rfl : k = l.length := by omega
   have BK := qh bk
   clear bk
   go_wp2_with fail
   refine bodyPost_end (results_none Tryz.results82 _ _ _) rfl ?_
   have := BK.out
   rw [List.take_length] at this
   exact ⟨rfl, rk, this⟩
theorem lw_Field {α : Type} (b q : Nat) (p : Addr) (s : ByteArray) (l : List α) (A : Option Addr) (c : Nat) (enc : α → List UInt8) (hn : l.length ≤ 65535) (hc1 : l.length ≤ c) (hc2 : c ≤ maxLen) (hroom : s.size + (numL l.length 2 ++ l.flatMap enc).length ≤ maxLen) (w : World) (hb : Wlk w b s false) (ct : w.cell? p = some (.slice A l.length c)) (hp : p.block ≠ b)
  (hE : ∀ k x, l[k]? = some x → ∃ gb off, A = some ⟨gb, off, none⟩ ∧ ∀ W s', Wr [b] w W → Wlk W b s' false → s'.size + (enc x).length ≤ maxLen → Calls Tryz.prog 84 #[.pointer (some ⟨gb, off + k * 3, none⟩), .pointer (some ⟨q, 0, none⟩)] W (EncQ b s' (enc x) false W)) :
  Calls Tryz.prog 83 #[.pointer (some ⟨b, 0, none⟩), .pointer (some p), .func (.func 84) #[] #[.pointer (some ⟨q, 0, none⟩)]] w (EncQ b s (numL l.length 2 ++ l.flatMap enc) false w) := by
 have hl2 : (numL l.length 2 ++ l.flatMap enc).length = 2 + (l.flatMap enc).length := by rw [qlaq, numL_len]
 rw [hl2] at hroom
 have h := count_w b l.length s false hn (by omega) w hb
 unfold maxLen at hc2
 have H := qh h
 have HE := qh hE
 have CT := qh ct
 have HR := qh hroom
 clear hb h hE hl2 hroom
 go_enter Tryz.func83, Tryz.ntmps83
 go_wp2_with fail
 refine H.out.mono ?_
 rintro e w1 ⟨rfl, r1, b1⟩
 have c0 := b1.cell 0
 have c1 := b1.cell 1
 have c2 := b1.cell 2
 simp only [qgaq, qgzq, qgsq] at c0 c1 c2
 replace ct := r1.cellOf ct (by simp [hp])
 go_wp2_with fail
 go_loopw [46] (fun s46 wr => ∃ k : Nat, k ≤ l.length ∧ s46 = .int .i64 k ∧ Wr [b] w wr ∧ Wlk wr b (addL s (numL l.length 2 ++ (l.take k).flatMap enc)) false) (fun s46 _ => l.length - (intOf s46).toNat)
 case atStart => exact ⟨0, by omega, rfl, r1, by simpa using b1⟩
 case round =>
  obtain ⟨k, hk, rfl, rk, bk⟩ := hrel
  clear c0 c1 c2 ct
  have ct := rk.cellOf CT.out (by simp [hp])
  by_cases hlt : k < l.length
  ·obtain ⟨x, hx⟩ : ∃ x, l[k]? = some x := ⟨_, qgeq hlt⟩
   obtain ⟨gb, off, rfl, hcall⟩ := HE.out k x hx
   have hrm := flat_room enc hx
   have hc := hcall wr _ rk bk (by
    have := HR.out
    rw [addL_size, qlaq, numL_len]
    omega)
   have HC := qh hc
   have RK := qh rk
   have HX := qh hx
   have hlti : (k : Int) < (l.length : Int) := by omega
   have hk0 : (0 : Int) ≤ (k : Int) := by omega
   clear hcall hc rk bk hx hrm
   go_wp2_with fail
   refine HC.out.mono ?_
   rintro e w2 ⟨rfl, r2, b2⟩
   have hb2 : Wlk w2 b (addL s (numL l.length 2 ++ (l.take (k + 1)).flatMap enc)) false := by
    rw [addL_add] at b2
    rw [flat_split enc HX.out, ← qapq]
    exact b2
   have HB2 := qh hb2
   have R2 := qh (RK.out.trans r2)
   clear b2 r2 hb2 ct
   go_wp2_with fail
   go_roundw
   case rel => exact ⟨k + 1, by omega, by go_num, R2.out, HB2.out⟩
   case measure => simp [intOf]; omega
  ·obtain rfl : k = l.length := by omega
   have BK := qh bk
   clear bk
   go_wp2_with fail
   refine bodyPost_end (results_none Tryz.results83 _ _ _) rfl ?_
   have := BK.out
   rw [List.take_length] at this
   exact ⟨rfl, rk, this⟩
theorem lw_Arm {α : Type} (b q : Nat) (p : Addr) (s : ByteArray) (l : List α) (A : Option Addr) (c : Nat) (enc : α → List UInt8) (hn : l.length ≤ 65535) (hc1 : l.length ≤ c) (hc2 : c ≤ maxLen) (hroom : s.size + (numL l.length 2 ++ l.flatMap enc).length ≤ maxLen) (w : World) (hb : Wlk w b s false) (ct : w.cell? p = some (.slice A l.length c)) (hp : p.block ≠ b)
  (hE : ∀ k x, l[k]? = some x → ∃ gb off, A = some ⟨gb, off, none⟩ ∧ ∀ W s', Wr [b] w W → Wlk W b s' false → s'.size + (enc x).length ≤ maxLen → Calls Tryz.prog 86 #[.pointer (some ⟨b, 0, none⟩), .pointer (some ⟨gb, off + k * 3, none⟩)] W (EncQ b s' (enc x) false W)) :
  Calls Tryz.prog 85 #[.pointer (some ⟨b, 0, none⟩), .pointer (some p), .func (.func 86) #[.pointer (some ⟨b, 0, none⟩)] #[]] w (EncQ b s (numL l.length 2 ++ l.flatMap enc) false w) := by
 have hl2 : (numL l.length 2 ++ l.flatMap enc).length = 2 + (l.flatMap enc).length := by rw [qlaq, numL_len]
 rw [hl2] at hroom
 have h := count_w b l.length s false hn (by omega) w hb
 unfold maxLen at hc2
 have H := qh h
 have HE := qh hE
 have CT := qh ct
 have HR := qh hroom
 clear hb h hE hl2 hroom
 go_enter Tryz.func85, Tryz.ntmps85
 go_wp2_with fail
 refine H.out.mono ?_
 rintro e w1 ⟨rfl, r1, b1⟩
 have c0 := b1.cell 0
 have c1 := b1.cell 1
 have c2 := b1.cell 2
 simp only [qgaq, qgzq, qgsq] at c0 c1 c2
 replace ct := r1.cellOf ct (by simp [hp])
 go_wp2_with fail
 go_loopw [46] (fun s46 wr => ∃ k : Nat, k ≤ l.length ∧ s46 = .int .i64 k ∧ Wr [b] w wr ∧ Wlk wr b (addL s (numL l.length 2 ++ (l.take k).flatMap enc)) false) (fun s46 _ => l.length - (intOf s46).toNat)
 case atStart => exact ⟨0, by omega, rfl, r1, by simpa using b1⟩
 case round =>
  obtain ⟨k, hk, rfl, rk, bk⟩ := hrel
  clear c0 c1 c2 ct
  have ct := rk.cellOf CT.out (by simp [hp])
  by_cases hlt : k < l.length
  ·obtain ⟨x, hx⟩ : ∃ x, l[k]? = some x := ⟨_, qgeq hlt⟩
   obtain ⟨gb, off, rfl, hcall⟩ := HE.out k x hx
   have hrm := flat_room enc hx
   have hc := hcall wr _ rk bk (by
    have := HR.out
    rw [addL_size, qlaq, numL_len]
    omega)
   have HC := qh hc
   have RK := qh rk
   have HX := qh hx
   have hlti : (k : Int) < (l.length : Int) := by omega
   have hk0 : (0 : Int) ≤ (k : Int) := by omega
   clear hcall hc rk bk hx hrm
   go_wp2_with fail
   refine HC.out.mono ?_
   rintro e w2 ⟨rfl, r2, b2⟩
   have hb2 : Wlk w2 b (addL s (numL l.length 2 ++ (l.take (k + 1)).flatMap enc)) false := by
    rw [addL_add] at b2
    rw [flat_split enc HX.out, ← qapq]
    exact b2
   have HB2 := qh hb2
   have R2 := qh (RK.out.trans r2)
   clear b2 r2 hb2 ct
   go_wp2_with fail
   go_roundw
   case rel => exact ⟨k + 1, by omega, by go_num, R2.out, HB2.out⟩
   case measure => simp [intOf]; omega
  ·obtain rfl : k = l.length := by omega
   have BK := qh bk
   clear bk
   go_wp2_with fail
   refine bodyPost_end (results_none Tryz.results85 _ _ _) rfl ?_
   have := BK.out
   rw [List.take_length] at this
   exact ⟨rfl, rk, this⟩
theorem lw_Param {α : Type} (b q : Nat) (p : Addr) (s : ByteArray) (l : List α) (A : Option Addr) (c : Nat) (enc : α → List UInt8) (hn : l.length ≤ 65535) (hc1 : l.length ≤ c) (hc2 : c ≤ maxLen) (hroom : s.size + (numL l.length 2 ++ l.flatMap enc).length ≤ maxLen) (w : World) (hb : Wlk w b s false) (ct : w.cell? p = some (.slice A l.length c)) (hp : p.block ≠ b)
  (hE : ∀ k x, l[k]? = some x → ∃ gb off, A = some ⟨gb, off, none⟩ ∧ ∀ W s', Wr [b] w W → Wlk W b s' false → s'.size + (enc x).length ≤ maxLen → Calls Tryz.prog 88 #[.pointer (some ⟨gb, off + k * 2, none⟩), .pointer (some ⟨q, 0, none⟩)] W (EncQ b s' (enc x) false W)) :
  Calls Tryz.prog 87 #[.pointer (some ⟨b, 0, none⟩), .pointer (some p), .func (.func 88) #[] #[.pointer (some ⟨q, 0, none⟩)]] w (EncQ b s (numL l.length 2 ++ l.flatMap enc) false w) := by
 have hl2 : (numL l.length 2 ++ l.flatMap enc).length = 2 + (l.flatMap enc).length := by rw [qlaq, numL_len]
 rw [hl2] at hroom
 have h := count_w b l.length s false hn (by omega) w hb
 unfold maxLen at hc2
 have H := qh h
 have HE := qh hE
 have CT := qh ct
 have HR := qh hroom
 clear hb h hE hl2 hroom
 go_enter Tryz.func87, Tryz.ntmps87
 go_wp2_with fail
 refine H.out.mono ?_
 rintro e w1 ⟨rfl, r1, b1⟩
 have c0 := b1.cell 0
 have c1 := b1.cell 1
 have c2 := b1.cell 2
 simp only [qgaq, qgzq, qgsq] at c0 c1 c2
 replace ct := r1.cellOf ct (by simp [hp])
 go_wp2_with fail
 go_loopw [46] (fun s46 wr => ∃ k : Nat, k ≤ l.length ∧ s46 = .int .i64 k ∧ Wr [b] w wr ∧ Wlk wr b (addL s (numL l.length 2 ++ (l.take k).flatMap enc)) false) (fun s46 _ => l.length - (intOf s46).toNat)
 case atStart => exact ⟨0, by omega, rfl, r1, by simpa using b1⟩
 case round =>
  obtain ⟨k, hk, rfl, rk, bk⟩ := hrel
  clear c0 c1 c2 ct
  have ct := rk.cellOf CT.out (by simp [hp])
  by_cases hlt : k < l.length
  ·obtain ⟨x, hx⟩ : ∃ x, l[k]? = some x := ⟨_, qgeq hlt⟩
   obtain ⟨gb, off, rfl, hcall⟩ := HE.out k x hx
   have hrm := flat_room enc hx
   have hc := hcall wr _ rk bk (by
    have := HR.out
    rw [addL_size, qlaq, numL_len]
    omega)
   have HC := qh hc
   have RK := qh rk
   have HX := qh hx
   have hlti : (k : Int) < (l.length : Int) := by omega
   have hk0 : (0 : Int) ≤ (k : Int) := by omega
   clear hcall hc rk bk hx hrm
   go_wp2_with fail
   refine HC.out.mono ?_
   rintro e w2 ⟨rfl, r2, b2⟩
   have hb2 : Wlk w2 b (addL s (numL l.length 2 ++ (l.take (k + 1)).flatMap enc)) false := by
    rw [addL_add] at b2
    rw [flat_split enc HX.out, ← qapq]
    exact b2
   have HB2 := qh hb2
   have R2 := qh (RK.out.trans r2)
   clear b2 r2 hb2 ct
   go_wp2_with fail
   go_roundw
   case rel => exact ⟨k + 1, by omega, by go_num, R2.out, HB2.out⟩
   case measure => simp [intOf]; omega
  ·obtain rfl : k = l.length := by omega
   have BK := qh bk
   clear bk
   go_wp2_with fail
   refine bodyPost_end (results_none Tryz.results87 _ _ _) rfl ?_
   have := BK.out
   rw [List.take_length] at this
   exact ⟨rfl, rk, this⟩
end Go.Proofs.YtjanbpchedgoiaaGreat
