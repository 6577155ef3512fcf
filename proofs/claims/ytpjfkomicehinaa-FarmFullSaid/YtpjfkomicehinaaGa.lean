/- Layer 20 (farm): what it holds; bags of what is owned. -/
import Derived.Test.YtpjfkomicehinaaMe
import Derived.Test.YtpjfkomicehinaaAdr
import Derived.Test.YtpjfkomicehinaaGs
import Derived.Test.YtpjfkomicehinaaGb
namespace Go.Proofs.Ytpjfkomicehinaa
open Go.RowKit
set_option linter.unusedSimpArgs false
set_option linter.unusedVariables false
set_option maxRecDepth 20000
set_option maxHeartbeats 4000000
attribute [local irreducible] WPc WPl WPq ReadR OpT BinR HasS bx rdN rowN Take Takes Prov Triple ResF BuildP Done ag Int.decLt Int.decLe Int.instDecidableEq
/-! ### Services, backends -/
structure Bk where
  id : Int
  ad : Adr
  port : Nat
  wt : Int
  dr : Bool
deriving DecidableEq
abbrev bkC (b : Bk) : Ch := [(1, [.int .i64 b.id]), (1, [.bool b.ad.six]), (16, u8s b.ad.b), (1, [.int .u16 (b.port : Int)]), (1, [.int .i64 b.wt]), (1, [.bool b.dr])]
def bks (l : List Bk) : List Value := (l.map fun b => flat (bkC b)).flatten
theorem bkC_len (b : Bk) : (flat (bkC b)).length = 21 := by simp [flat_eq, b.ad.len, u8s_length]
theorem bks_len {l : List Bk} : (bks l).length = l.length * 21 := rows_len bkC_len
theorem bks_at {l : List Bk} {i : Nat} {b : Bk} (h : l[i]? = some b) : ((bks l).drop (i * 21)).take 21 = flat (bkC b) := rows_drop bkC_len h
theorem bks_cell {l : List Bk} {i : Nat} {b : Bk} (h : l[i]? = some b) {o : Nat} (ho : o < 21) : (bks l)[i * 21 + o]? = (flat (bkC b))[o]? := by
  rw [← bks_at h, List.getElem?_take_of_lt ho, List.getElem?_drop]
theorem bks_app {l k : List Bk} : bks (l ++ k) = bks l ++ bks k := by unfold bks; rw [List.map_append, List.flatten_append]
theorem bks_one {b : Bk} : bks [b] = flat (bkC b) := by unfold bks; rw [List.map_singleton]; simp
theorem bkC_ok (b : Bk) : FOk (bkC b) := by
  exact .one1 rfl (.one1 rfl (.bytes b.ad.len (.one1 rfl (.one1 rfl (.one1 rfl .nil)))))
instance bkElt : EltN Try.prog 36 21 := ⟨by kernel_rfl⟩
structure Sh where
  id : Int
  ad : Adr
  port : Nat
  proto : UInt8
  bits : Int
  lasts : Int
deriving DecidableEq
abbrev shC (s : Sh) (v : Value) : Ch := [(1, [.int .i64 s.id]), (1, [.bool s.ad.six]), (16, u8s s.ad.b), (1, [.int .u16 (s.port : Int)]), (1, [.int .u8 ((s.proto.toNat : Nat) : Int)]), (1, [.int .i64 s.bits]), (1, [.int .u64 s.lasts]), (1, [v])]
theorem shC_ok {s : Sh} {v : Value} (h : v.oneCell' = true) : FOk (shC s v) := .one1 rfl (.one1 rfl (.bytes s.ad.len (.one1 rfl (.one1 rfl (.one1 rfl (.one1 rfl (.one1 h .nil)))))))
structure Dr where
  ad : Adr
  port : Nat
  proto : UInt8
deriving DecidableEq
abbrev drc (d : Dr) : Ch := [(1, [.bool d.ad.six]), (16, u8s d.ad.b), (1, [.int .u16 (d.port : Int)]), (1, [.int .u8 ((d.proto.toNat : Nat) : Int)])]
def drW (d : Dr) : Prop := d.port < 65536
def drM : MK Dr Int := ⟨fun d => ag (drc d), fun n => .int .i64 n, 0, drW⟩
def drK : List (Option IntKind) := none :: (List.replicate 16 (some .u8) ++ [some .u16, some .u8])
theorem dr_flat (d : Dr) : flat (drc d) = .bool d.ad.six :: (u8s d.ad.b ++ [.int .u16 (d.port : Int), .int .u8 ((d.proto.toNat : Nat) : Int)]) := by simp [drc, flat]
theorem gshp16 (a : Adr) : Shp (List.replicate 16 (some .u8)) (u8s a.b) := by
  have := shp_u8s a.b
  rwa [a.len] at this
theorem dr_shp (d : Dr) : Shp drK (flat (drc d)) := by
  rw [dr_flat]
  exact ⟨⟨_, rfl⟩, (gshp16 d.ad).append ⟨⟨_, rfl⟩, ⟨_, rfl⟩, trivial⟩⟩
theorem ginR_u16 {n : Nat} (h : n < 65536) : inR (.int .u16 (n : Int)) := by
  simp [inR, Lit.wf, IntKind.min, IntKind.max, IntKind.signed, IntKind.bits]
  omega
theorem dr_inR {d : Dr} (h : drW d) : ∀ v ∈ flat (drc d), inR v := fun v hv => by
  rw [dr_flat] at hv
  simp only [List.mem_cons, List.mem_append, List.not_mem_nil, or_false] at hv
  rcases hv with rfl | hv | rfl | rfl
  · trivial
  · exact inR_u8 v hv
  · exact ginR_u16 h
  · exact inR_u8 _ (List.mem_map.2 ⟨d.proto, List.mem_singleton.2 rfl, rfl⟩ : _ ∈ u8s [d.proto])
theorem dr_inj {a b : Dr} (h : flat (drc a) = flat (drc b)) : a = b := by
  rw [dr_flat, dr_flat] at h
  obtain ⟨h1, h2⟩ := List.cons.inj h
  obtain ⟨h3, h4⟩ := List.append_inj h2 (by simp [u8s, a.ad.len, b.ad.len])
  have e1 : a.ad = b.ad := Adr.ext (by simpa using h1) (u8s_inj.1 h3)
  simp at h4
  obtain ⟨e3, e4⟩ := h4
  have e6 : a.port = b.port := by omega
  have e8 : a.proto = b.proto := UInt8.toNat_inj.1 (by omega)
  cases a; cases b
  simp_all
instance drI : MapI Try.prog 64 drM :=
  mapI_of (kT := 71) (eT := 3) (ks := drK) drc (fun _ => rfl) (by kernel_rfl) (have h : EqI Try.prog 71 _ := inferInstance; h) (by kernel_rfl) (by kernel_rfl) (by kernel_rfl) (by kernel_rfl) (of_decide_eq_true (by kernel_rfl)) (by kernel_rfl) (by kernel_rfl)
    (fun d hd => ⟨dr_shp d, dr_inR hd⟩) (by kernel_rfl) (fun a b h => dr_inj h)
def oPtr (o : Option Nat) : Value := match o with | some g => .pointer (some ⟨g, 0, none⟩) | none => .pointer none
def idM : MK Int (Option Nat) := ⟨fun k => .int .i64 k, oPtr, none, in64⟩
instance idI : MapI Try.prog 63 idM :=
  mapI_int (kT := 3) (eT := 68) (by kernel_rfl) (by kernel_rfl) (by kernel_rfl) (fun _ => rfl) (fun _ h => h) (by kernel_rfl)
/-- A service, as it lies in memory. -/
structure PS where
  g : Nat
  v : Value
  s : Sh
  bs : List Bk
structure Sb where
  s : Sh
  bs : List Bk
deriving DecidableEq
abbrev PS.sb (x : PS) : Sb := ⟨x.s, x.bs⟩
def prow (x : PS) : List Asn := [bx x.g 33 (shC x.s x.v), rowN 36 21 x.v x.bs.length (bks x.bs)]
theorem prow_own (x : PS) (A : Asn) (h : A ∈ prow x) : A.own = true := by
  unfold prow at h
  simp only [List.mem_cons, List.not_mem_nil, or_false] at h
  rcases h with rfl | rfl
  · exact bx_own
  · exact rowN_own
def ies (ps : List PS) : List (Int × Option Nat) := ps.map fun x => (x.s.id, some x.g)
def Sh.door (s : Sh) : Dr := ⟨s.ad, s.port, s.proto⟩
structure FM where
  ps : List PS
  ds : List (Dr × Int)
abbrev hF (g : Nat) : Value := .pointer (some ⟨g, 0, none⟩)
abbrev fac (mi md : Nat) : Ch := [(1, [.map (some mi)]), (1, [.map (some md)])]
abbrev fmA (gF mi md : Nat) (F : FM) : List Asn := [bx gF 66 (fac mi md), mp idM mi (ies F.ps), mp drM md F.ds, gbag prow F.ps]
end Go.Proofs.Ytpjfkomicehinaa
