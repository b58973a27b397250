/- What the octets' functions come to, as plain lists of numbers (seat b). -/
import Derived.Test.YtgfkcmmhnibaiaaPRwx2
import Derived.Test.YtgfkcmmhnibaiaaPRwx3
import Derived.Test.YtgfkcmmhnibaiaaRwRefNum2
namespace Go.Proofs.Ytgfkcmmhnibaiaa.PRw
open Go.RowKit Go.Proofs.YtgfkcmmhnibaiaaW.PrintWords Go.Proofs.YtgfkcmmhnibaiaaW.PrintLast Go.Proofs.YtgfkcmmhnibaiaaW.PrintMore
set_option linter.unusedVariables false
set_option linter.unusedSimpArgs false

theorem toList_loop (bs : ByteArray) : ∀ (n i : Nat) (r : List UInt8), bs.size - i = n → ByteArray.toList.loop bs i r = r.reverse ++ bs.data.toList.drop i := by
  intro n
  induction n with
  | zero =>
    intro i r h
    rw [ByteArray.toList.loop.eq_def]
    have h2 : bs.data.toList.length ≤ i := by
      have : bs.data.toList.length = bs.size := rfl
      omega
    rw [if_neg (by omega), List.drop_of_length_le h2, List.append_nil]
  | succ n ih =>
    intro i r h
    rw [ByteArray.toList.loop.eq_def, if_pos (by omega), ih (i + 1) _ (by omega)]
    have hi : i < bs.data.size := by
      have : bs.data.size = bs.size := rfl
      omega
    have hg : bs.get! i = bs.data[i] := by
      show bs.data[i]! = _
      rw [getElem!_pos bs.data i hi]
    rw [hg, List.reverse_cons, List.append_assoc]
    have hd : bs.data.toList.drop i = bs.data[i] :: bs.data.toList.drop (i + 1) := by
      rw [List.drop_eq_getElem_cons (by simpa using hi)]
      simp
    rw [hd]; rfl
theorem toList_data (bs : ByteArray) : bs.toList = bs.data.toList := by
  have := toList_loop bs _ 0 [] rfl
  simpa [ByteArray.toList] using this
theorem str_toList (xs : List Int) : (strOfNums xs).toList = xs.map fun n => UInt8.ofNat n.toNat := by
  rw [toList_data]; rfl
def Bytes (l : List Int) : Prop := ∀ x ∈ l, 0 ≤ x ∧ x < 256
theorem str_inj : ∀ {a b : List Int}, Bytes a → Bytes b → (strOfNums a).toList = (strOfNums b).toList → a = b := by
  intro a b ha hb h
  rw [str_toList, str_toList] at h
  induction a generalizing b with
  | nil => cases b with
    | nil => rfl
    | cons y b => simp at h
  | cons x a ih =>
    cases b with
    | nil => simp at h
    | cons y b =>
      simp only [List.map_cons, List.cons.injEq] at h
      obtain ⟨h1, h2⟩ := h
      have hx := ha x (by simp)
      have hy := hb y (by simp)
      have h3 := congrArg UInt8.toNat h1
      simp only [UInt8.toNat_ofNat'] at h3
      have : x = y := by omega
      rw [this, ih (fun z hz => ha z (by simp [hz])) (fun z hz => hb z (by simp [hz])) h2]
theorem wf64 {x : Int} (h : (Lit.int .u64 x).wf = true) : 0 ≤ x ∧ x < 2 ^ 64 := by
  simp [Lit.wf, IntKind.min, IntKind.max, IntKind.bits, IntKind.signed] at h
  omega
theorem wf8 {x : Int} (h : (Lit.int .u8 x).wf = true) : 0 ≤ x ∧ x < 256 := by
  simp [Lit.wf, IntKind.min, IntKind.max, IntKind.bits, IntKind.signed] at h
  omega
/-- A number's bytes: at most d of them with the high bit. -/
def enc : Nat → Int → List Int
  | 0, n => [n]
  | d + 1, n => if n < 128 then [n] else (n % 128 + 128) :: enc d (n / 128)
def lim : Nat → Int
  | 0 => 128
  | d + 1 => 128 * lim d
theorem enc_ne (d : Nat) (n : Int) : enc d n ≠ [] := by
  cases d with
  | zero => simp [enc]
  | succ d => simp only [enc]; split <;> simp
theorem enc_len : ∀ (d : Nat) (n : Int), 1 ≤ (enc d n).length ∧ (enc d n).length ≤ d + 1
  | 0, n => by simp [enc]
  | d + 1, n => by
    simp only [enc]
    split
    · simp
    · have := enc_len d (n / 128)
      simp only [List.length_cons]
      omega
theorem enc_bytes : ∀ (d : Nat) (n : Int), 0 ≤ n → n < lim d → Bytes (enc d n)
  | 0, n, h0, h1 => by intro x hx; simp [enc] at hx; simp [lim] at h1; omega
  | d + 1, n, h0, h1 => by
    simp only [enc]
    split
    · intro x hx; simp at hx; omega
    · intro x hx
      simp only [List.mem_cons] at hx
      simp only [lim] at h1
      rcases hx with rfl | hx
      · omega
      · exact enc_bytes d (n / 128) (by omega) (by omega) x hx
/-- No number's bytes begin another's. -/
theorem enc_apart : ∀ (d : Nat) (a b : Int) (r : List Int), 0 ≤ a → a < lim d → 0 ≤ b → b < lim d → enc d a = enc d b ++ r → a = b
  | 0, a, b, r, _, _, _, _, h => by simp [enc] at h; exact h.1
  | d + 1, a, b, r, h0, h1, h2, h3, h => by
    simp only [enc] at h
    simp only [lim] at h1 h3
    by_cases ha : a < 128
    · rw [if_pos ha] at h
      by_cases hb : b < 128
      · rw [if_pos hb] at h; simp at h; exact h.1
      · rw [if_neg hb] at h
        simp only [List.cons_append, List.cons.injEq] at h
        omega
    · rw [if_neg ha] at h
      by_cases hb : b < 128
      · rw [if_pos hb] at h
        simp only [List.cons_append, List.cons.injEq] at h
        omega
      · rw [if_neg hb] at h
        simp only [List.cons_append, List.cons.injEq] at h
        have := enc_apart d (a / 128) (b / 128) r (by omega) (by omega) (by omega) (by omega) h.2
        omega
theorem u64_wrap (n : Int) (h0 : 0 ≤ n) (h1 : n < 2 ^ 64) : IntKind.u64.wrap n = n := by
  rw [IntKind.wrap_u64]; omega
theorem put_l0 : ∀ (d k : Nat) (pre : List Int) (n : Int), 0 ≤ n → n < lim d → n < 2 ^ 64 → d + 1 ≤ k → pre.length + d ≤ 100000000 → octet_put.l0 k pre n = some (pre ++ enc d n) := by
  intro d
  induction d with
  | zero =>
    intro k pre n h0 h1 h2 hk hp
    obtain ⟨k, rfl⟩ : ∃ m, k = m + 1 := ⟨k - 1, by omega⟩
    simp only [lim] at h1
    have e : n % 256 = n := by omega
    simp only [octet_put.l0, enc]
    rw [if_neg (by omega), if_pos (by omega), e]
  | succ d ih =>
    intro k pre n h0 h1 h2 hk hp
    obtain ⟨k, rfl⟩ : ∃ m, k = m + 1 := ⟨k - 1, by omega⟩
    simp only [lim] at h1
    simp only [octet_put.l0, enc]
    by_cases h : n < 128
    · have e : n % 256 = n := by omega
      rw [if_neg (by omega), if_pos (by omega), if_pos h, e]
    · have e1 : IntKind.u64.wrap (Int.tdiv n 128) = n / 128 := by
        rw [Int.tdiv_eq_ediv_of_nonneg h0, u64_wrap _ (by omega) (by omega)]
      have e2 : ((Int.tmod n 128) % 256 + 128) % 256 = n % 128 + 128 := by
        rw [Int.tmod_eq_emod_of_nonneg h0]; omega
      have hl : (pre ++ [n % 128 + 128]).length + d ≤ 100000000 := by rw [List.length_append]; simp only [List.length_cons, List.length_nil]; omega
      rw [if_pos (by omega), if_pos (by omega), if_neg h, e1, e2, ih k (pre ++ [n % 128 + 128]) (n / 128) (by omega) (by omega) (by omega) (by omega) hl]
      simp
theorem lim9 : lim 9 = 1180591620717411303424 := by decide +kernel
def encs (l : List Int) : List Int := l.flatMap (enc 9)
theorem encs_len (l : List Int) : (encs l).length ≤ 10 * l.length := by
  induction l with
  | nil => simp [encs]
  | cons x l ih =>
    have := enc_len 9 x
    simp only [encs, List.flatMap_cons, List.length_append, List.length_cons] at *
    omega
theorem Put_l0 (l : List Int) (hb : ∀ x ∈ l, 0 ≤ x ∧ x < 2 ^ 64) (hl : l.length ≤ 100) : ∀ (d k : Nat) (pre : List Int) (i : Nat), i + d = l.length → d + 11 ≤ k → pre.length + 10 * d ≤ 10000000 →
    octet_Put.l0 k pre l (l.length : Int) (i : Int) = some (pre ++ encs (l.drop i)) := by
  intro d
  induction d with
  | zero =>
    intro k pre i hi hk hp
    obtain ⟨k, rfl⟩ : ∃ m, k = m + 1 := ⟨k - 1, by omega⟩
    simp only [octet_Put.l0]
    rw [if_neg (by omega), List.drop_of_length_le (by omega)]
    simp [encs]
  | succ d ih =>
    intro k pre i hi hk hp
    obtain ⟨k, rfl⟩ : ∃ m, k = m + 1 := ⟨k - 1, by omega⟩
    simp only [octet_Put.l0]
    have hb1 := hb l[i] (List.getElem_mem _)
    have q := enc_len 9 l[i]
    have hl2 : (pre ++ enc 9 l[i]).length + 10 * d ≤ 10000000 := by rw [List.length_append]; omega
    have ew : wrap64 ((i : Int) + 1) = ((i + 1 : Nat) : Int) := by unfold wrap64; omega
    rw [if_pos (by omega), if_pos (by omega), if_pos (by omega), rd_nth l i (by omega), octet_put.f, put_l0 9 k pre _ hb1.1 (by rw [lim9]; omega) hb1.2 (by omega) (by omega), Option.bind_some, ew, ih k _ (i + 1) (by omega) (by omega) hl2]
    rw [List.drop_eq_getElem_cons (show i < l.length by omega)]
    simp only [encs, List.flatMap_cons, List.append_assoc]
theorem Put_enc (k : Nat) (b l : List Int) (hb : b.length ≤ 5000000) (hl : l.length ≤ 100) (h : ∀ x ∈ l, 0 ≤ x ∧ x < 2 ^ 64) (hk : 111 ≤ k) : octet_Put.f k b l = some (b ++ encs l) := by
  unfold octet_Put.f slices_Clone_byte_byte.f
  rw [if_pos (by omega), Option.bind_some]
  have := Put_l0 l h hl l.length k b 0 (by omega) (by omega) (by omega)
  simpa using this
theorem ref_Num : ∀ (d k : Nat) (n : Int), 0 ≤ n → n < lim d → n < 2 ^ 64 → d ≤ 9 → d + 1 ≤ k → dogwatchref09_Num.f k n = some (enc d n) := by
  intro d
  induction d with
  | zero =>
    intro k n h0 h1 h2 h9 hk
    obtain ⟨k, rfl⟩ : ∃ m, k = m + 1 := ⟨k - 1, by omega⟩
    simp only [lim] at h1
    have e : n % 256 = n := by omega
    simp only [dogwatchref09_Num.f, enc]
    rw [if_pos (by omega), e]
  | succ d ih =>
    intro k n h0 h1 h2 h9 hk
    obtain ⟨k, rfl⟩ : ∃ m, k = m + 1 := ⟨k - 1, by omega⟩
    simp only [lim] at h1
    simp only [dogwatchref09_Num.f, enc]
    by_cases h : n < 128
    · have e : n % 256 = n := by omega
      rw [if_pos h, if_pos h, e]
    · have e1 : IntKind.u64.wrap (Int.tdiv n 128) = n / 128 := by
        rw [Int.tdiv_eq_ediv_of_nonneg h0, u64_wrap _ (by omega) (by omega)]
      have e2 : (IntKind.u64.wrap (128 + (Int.tmod n 128))) % 256 = n % 128 + 128 := by
        rw [Int.tmod_eq_emod_of_nonneg h0, u64_wrap _ (by omega) (by omega)]; omega
      have q := enc_len d (n / 128)
      rw [if_neg h, if_neg h, e1, e2, Option.bind_some, ih k (n / 128) (by omega) (by omega) (by omega) (by omega) (by omega), Option.bind_some, if_pos (by simp only [List.length_cons, List.length_nil]; omega)]
      rfl
end Go.Proofs.Ytgfkcmmhnibaiaa.PRw
