/- Printed: functions of the given program as functions over plain data, and that the machine does what they say; no claim of its own; no condition. -/
import Derived.Test.YtjemelnmlbcmeaaLfN
set_option maxRecDepth 100000
set_option maxHeartbeats 4000000
set_option linter.unusedVariables false
set_option linter.unusedSimpArgs false
namespace Go.AM
open Go

structure Isochronref16Draft where
  Bridges : Int
  Stations : Int
  Chords : (List Int)
  Homes : (List Int)
  Pers : (List Int)
  Delays : (List Int)
  deriving Inhabited
def eIsochronref16Draft : Enc Isochronref16Draft := eMap (fun s => (s.Bridges, s.Stations, s.Chords, s.Homes, s.Pers, s.Delays, ())) (ePair (eInt .u8) (ePair (eInt .u8) (ePair (eSl (eInt .u8)) (ePair (eSl (eInt .u8)) (ePair (eSl (eInt .u8)) (ePair (eSl (eInt .u8)) eUnit))))))
theorem eIsochronref16Draft_el {φ : Fz} {cs : List Value} {x : Isochronref16Draft} (h : eIsochronref16Draft.R φ cs x) : ∃ a156063 n156063 c156063, ∃ a156064 n156064 c156064, ∃ a156065 n156065 c156065, ∃ a156066 n156066 c156066, cs = [.int .u8 x.Bridges, .int .u8 x.Stations, .slice a156063 n156063 c156063, .slice a156064 n156064 c156064, .slice a156065 n156065 c156065, .slice a156066 n156066 c156066] ∧ RSl (eInt .u8) φ (.slice a156063 n156063 c156063) x.Chords ∧ RSl (eInt .u8) φ (.slice a156064 n156064 c156064) x.Homes ∧ RSl (eInt .u8) φ (.slice a156065 n156065 c156065) x.Pers ∧ RSl (eInt .u8) φ (.slice a156066 n156066 c156066) x.Delays := by
  obtain ⟨p1, r1, e1, g1, p2, r2, e2, g2, p3, r3, e3, g3, p4, r4, e4, g4, p5, r5, e5, g5, p6, r6, e6, g6, gl⟩ := h
  have gl : r6 = [] := gl
  have g1 : p1 = [.int .u8 x.Bridges] := g1
  have g2 : p2 = [.int .u8 x.Stations] := g2
  obtain ⟨a3, n3, c3, g3, R3⟩ := g3
  obtain ⟨a4, n4, c4, g4, R4⟩ := g4
  obtain ⟨a5, n5, c5, g5, R5⟩ := g5
  obtain ⟨a6, n6, c6, g6, R6⟩ := g6
  subst gl
  subst g1 g2 g3 g4 g5 g6
  subst e6
  subst e5
  subst e4
  subst e3
  subst e2
  subst e1
  exact ⟨a3, n3, c3, a4, n4, c4, a5, n5, c5, a6, n6, c6, rfl, R3, R4, R5, R6⟩
structure ApiLink where
  A : Int
  B : Int
  Per : Int
  Delay : Int
  deriving Inhabited
def eApiLink : Enc ApiLink := eMap (fun s => (s.A, s.B, s.Per, s.Delay, ())) (ePair (eInt .i64) (ePair (eInt .i64) (ePair (eInt .i64) (ePair (eInt .i64) eUnit))))
theorem eApiLink_el {φ : Fz} {cs : List Value} {x : ApiLink} (h : eApiLink.R φ cs x) : cs = [.int .i64 x.A, .int .i64 x.B, .int .i64 x.Per, .int .i64 x.Delay] := by
  obtain ⟨p1, r1, e1, g1, p2, r2, e2, g2, p3, r3, e3, g3, p4, r4, e4, g4, gl⟩ := h
  have gl : r4 = [] := gl
  have g1 : p1 = [.int .i64 x.A] := g1
  have g2 : p2 = [.int .i64 x.B] := g2
  have g3 : p3 = [.int .i64 x.Per] := g3
  have g4 : p4 = [.int .i64 x.Delay] := g4
  subst gl
  subst g1 g2 g3 g4
  subst e4
  subst e3
  subst e2
  subst e1
  exact rfl
structure ApiTopo where
  Nodes : Int
  Station : (List Bool)
  Links : (List ApiLink)
  deriving Inhabited
def eApiTopo : Enc ApiTopo := eMap (fun s => (s.Nodes, s.Station, s.Links, ())) (ePair (eInt .i64) (ePair (eSl eBool) (ePair (eSl eApiLink) eUnit)))
theorem eApiTopo_el {φ : Fz} {cs : List Value} {x : ApiTopo} (h : eApiTopo.R φ cs x) : ∃ a156067 n156067 c156067, ∃ a156068 n156068 c156068, cs = [.int .i64 x.Nodes, .slice a156067 n156067 c156067, .slice a156068 n156068 c156068] ∧ RSl eBool φ (.slice a156067 n156067 c156067) x.Station ∧ RSl eApiLink φ (.slice a156068 n156068 c156068) x.Links := by
  obtain ⟨p1, r1, e1, g1, p2, r2, e2, g2, p3, r3, e3, g3, gl⟩ := h
  have gl : r3 = [] := gl
  have g1 : p1 = [.int .i64 x.Nodes] := g1
  obtain ⟨a2, n2, c2, g2, R2⟩ := g2
  obtain ⟨a3, n3, c3, g3, R3⟩ := g3
  subst gl
  subst g1 g2 g3
  subst e3
  subst e2
  subst e1
  exact ⟨a2, n2, c2, a3, n3, c3, rfl, R2, R3⟩
structure TopoEnd where
  Link : ApiLink
  port : Int
  deriving Inhabited
def eTopoEnd : Enc TopoEnd := eMap (fun s => (s.Link, s.port, ())) (ePair eApiLink (ePair (eInt .i64) eUnit))
theorem eTopoEnd_el {φ : Fz} {cs : List Value} {x : TopoEnd} (h : eTopoEnd.R φ cs x) : cs = [.int .i64 x.Link.A, .int .i64 x.Link.B, .int .i64 x.Link.Per, .int .i64 x.Link.Delay, .int .i64 x.port] := by
  obtain ⟨p1, r1, e1, g1, p2, r2, e2, g2, gl⟩ := h
  have gl : r2 = [] := gl
  obtain g1 := eApiLink_el g1
  have g2 : p2 = [.int .i64 x.port] := g2
  subst gl
  subst g1 g2
  subst e2
  subst e1
  exact rfl


/-! isochron/isochronlaw16.line -/
def m_isochronlaw16_line : R ApiTopo :=
  .ok ((ApiTopo.mk 4 [true, false, false, true] [(ApiLink.mk 0 1 8 50), (ApiLink.mk 1 2 8 0), (ApiLink.mk 2 3 80 7)]))

/-! isochron/topo.isNode -/
def m_topo_isNode (p118 : ApiTopo) (p121 : Int) : R Bool :=
  sh ((decide (0 ≤ p121)) && (decide (p121 < p118.Nodes))) fun (s127 : Bool) =>
  (.ok s127)

/-! isochron/topo.validLink -/
def m_topo_validLink_l1 (e103 : ApiLink) (p91 : ApiTopo) (p94 : Int) (rec260 : Int → R Bool) (s232 : Int) : R Bool :=
  if (decide (s232 < ((p91.Links.take (p94).toNat).length : Int))) then (bindR (idx (p91.Links.take (p94).toNat) s232) fun e266 =>
  sh ((decide (e266.A = e103.A)) && (decide (e266.B = e103.B))) fun (s274 : Bool) =>
  (sh (s274 || ((decide (e266.A = e103.B)) && (decide (e266.B = e103.A)))) fun (s278 : Bool) =>
  (if s278 then (if (!(!(decide (0 ≤ s232)))) then (.ok false)
  else (.ok true))
  else (rec260 (w64 (s232 + 1))))))
  else (.ok true)
def m_topo_validLink (p91 : ApiTopo) (p94 : Int) : R Bool :=
  bindR (idx p91.Links p94) fun e103 =>
  bindR (m_topo_isNode p91 (e103.A)) fun e133 =>
  sh (fun (s143 : Bool) => (sh (s143 && (decide (e103.A ≠ e103.B))) fun (s147 : Bool) =>
  (if (!s147) then (.ok false)
  else (bindR (idx p91.Station e103.A) fun e151 =>
  sh (fun (s159 : Bool) => (if (!s159) then (.ok false)
  else (sh ((decide (1 ≤ e103.Per)) && (decide (e103.Per ≤ 1000))) fun (s164 : Bool) =>
  (sh (s164 && (decide (0 ≤ e103.Delay))) fun (s168 : Bool) =>
  (sh (s168 && (decide (e103.Delay ≤ 10000))) fun (s172 : Bool) =>
  (if (!s172) then (.ok false)
  else (bindR (must (decide (0 ≤ p94 ∧ p94 ≤ (p91.Links.length : Int)))) fun _ =>
  loopM (m_topo_validLink_l1 e103 p91 p94) LL 0))))))) fun j299 =>
  (if (!e151) then (j299 true)
  else (bindR (idx p91.Station e103.B) fun e302 =>
  j299 (!e302))))))) fun j308 =>
  (if e133 then (bindR (m_topo_isNode p91 (e103.B)) fun e311 =>
  j308 e311)
  else (j308 false))

/-! (isochron/topo.end).from -/
def m_topo_end_from (p381 : TopoEnd) : R Int :=
  if (decide ((Int.tmod p381.port 2) = 0)) then (.ok (p381.Link.A))
  else (.ok (p381.Link.B))

/-! isochron/topo.degree -/
def m_topo_degree_l1 (p329 : ApiTopo) (p332 : Int) (rec560 : (Int × Int) → R Int) (s495 : Int × Int) : R Int :=
  if (decide (s495.1 < (p329.Links.length : Int))) then (bindR (idx p329.Links s495.1) fun e566 =>
  bindR (m_topo_end_from ((TopoEnd.mk e566 (w64 (2 * s495.1))))) fun e584 =>
  sh (fun (s591 : Int) => (bindR (m_topo_end_from ((TopoEnd.mk e566 (w64 ((w64 (2 * s495.1)) + 1))))) fun e607 =>
  sh (fun (s614 : Int) => (rec560 ((w64 (s495.1 + 1)), s614))) fun j617 =>
  (if (decide (e607 = p332)) then (j617 (w64 (s591 + 1)))
  else (j617 s591)))) fun j594 =>
  (if (decide (e584 = p332)) then (j594 (w64 (s495.2 + 1)))
  else (j594 s495.2)))
  else (.ok (s495.2))
def m_topo_degree (p329 : ApiTopo) (p332 : Int) : R Int :=
  loopM (m_topo_degree_l1 p329 p332) LL (0, 0)

/-! (isochron/topo.end).to -/
def m_topo_end_to (p717 : TopoEnd) : R Int :=
  bindR (m_topo_end_from p717) fun e722 =>
  .ok ((w64 ((w64 (p717.Link.A + p717.Link.B)) - e722)))

/-! slices.Index[[]int,int] -/
def m_slices_Index_int_int_l1 (p729 : (List Int)) (p731 : Int) (rec756 : Int → R Int) (s748 : Int) : R Int :=
  if (decide (s748 < (p729.length : Int))) then (bindR (idx p729 s748) fun e762 =>
  if (decide (p731 = e762)) then (.ok s748)
  else (rec756 (w64 (s748 + 1))))
  else (.ok ((-1)))
def m_slices_Index_int_int (p729 : (List Int)) (p731 : Int) : R Int :=
  loopM (m_slices_Index_int_int_l1 p729 p731) LL 0

/-! slices.Contains[[]int,int] -/
def m_slices_Contains_int_int (p726 : (List Int)) (p728 : Int) : R Bool :=
  bindR (m_slices_Index_int_int p726 p728) fun e766 =>
  .ok ((decide (0 ≤ e766)))

/-! isochron/topo.reach -/
def m_topo_reach_l1 (p3323 : ApiTopo) (p3327 : (List Int)) (rec5292 : (List Bool) → R (List Bool)) (rec5782 : (Int × (List Bool)) → R (List Bool)) (s5624 : Int × (List Bool)) : R (List Bool) :=
  if (decide (s5624.1 < (p3323.Links.length : Int))) then (bindR (idx p3323.Links s5624.1) fun e5788 =>
  bindR (m_topo_end_from ((TopoEnd.mk e5788 (w64 (2 * s5624.1))))) fun e5806 =>
  bindR (idx s5624.2 e5806) fun e5810 =>
  sh (fun (s5822 : Bool) => (sh (fun (s5831 : Bool) => (if s5831 then (bindR (m_topo_end_to ((TopoEnd.mk e5788 (w64 (2 * s5624.1))))) fun e5835 =>
  bindR (idx s5624.2 e5835) fun e5839 =>
  rec5292 (s5624.2.set (e5835).toNat true))
  else (bindR (m_topo_end_from ((TopoEnd.mk e5788 (w64 ((w64 (2 * s5624.1)) + 1))))) fun e5860 =>
  bindR (idx s5624.2 e5860) fun e5864 =>
  sh (fun (s5876 : Bool) => (sh (fun (s5885 : Bool) => (if s5885 then (bindR (m_topo_end_to ((TopoEnd.mk e5788 (w64 ((w64 (2 * s5624.1)) + 1))))) fun e5889 =>
  bindR (idx s5624.2 e5889) fun e5893 =>
  rec5292 (s5624.2.set (e5889).toNat true))
  else (rec5782 ((w64 (s5624.1 + 1)), s5624.2)))) fun j5905 =>
  (if s5876 then (bindR (m_slices_Contains_int_int p3327 ((w64 (Int.tdiv (w64 ((w64 (2 * s5624.1)) + 1)) 2)))) fun e5908 =>
  j5905 (!e5908))
  else (j5905 false)))) fun j5912 =>
  (if e5864 then (bindR (m_topo_end_to ((TopoEnd.mk e5788 (w64 ((w64 (2 * s5624.1)) + 1))))) fun e5915 =>
  bindR (idx s5624.2 e5915) fun e5919 =>
  j5912 (!e5919))
  else (j5912 false))))) fun j5922 =>
  (if s5822 then (bindR (m_slices_Contains_int_int p3327 ((w64 (Int.tdiv (w64 (2 * s5624.1)) 2)))) fun e5925 =>
  j5922 (!e5925))
  else (j5922 false)))) fun j5929 =>
  (if e5810 then (bindR (m_topo_end_to ((TopoEnd.mk e5788 (w64 (2 * s5624.1))))) fun e5932 =>
  bindR (idx s5624.2 e5932) fun e5936 =>
  j5929 (!e5936))
  else (j5929 false)))
  else (.ok (s5624.2))
def m_topo_reach_l2 (p3323 : ApiTopo) (p3327 : (List Int)) (rec5292 : (List Bool) → R (List Bool)) (s4644 : (List Bool)) : R (List Bool) :=
  loopM (m_topo_reach_l1 p3323 p3327 rec5292) LL (0, s4644)
def m_topo_reach (p3323 : ApiTopo) (p3326 : Int) (p3327 : (List Int)) : R (List Bool) :=
  bindR (must (decide (0 ≤ p3323.Nodes ∧ p3323.Nodes ≤ 1000000000))) fun _ =>
  bindR (idx (List.replicate (p3323.Nodes).toNat false) p3326) fun e3345 =>
  loopM (m_topo_reach_l2 p3323 p3327) LL ((List.replicate (p3323.Nodes).toNat false).set (p3326).toNat true)

/-! slices.Index[[]bool,bool] -/
def m_slices_Index_bool_bool_l1 (p5955 : (List Bool)) (p5957 : Bool) (rec5982 : Int → R Int) (s5974 : Int) : R Int :=
  if (decide (s5974 < (p5955.length : Int))) then (bindR (idx p5955 s5974) fun e5988 =>
  if (p5957 == e5988) then (.ok s5974)
  else (rec5982 (w64 (s5974 + 1))))
  else (.ok ((-1)))
def m_slices_Index_bool_bool (p5955 : (List Bool)) (p5957 : Bool) : R Int :=
  loopM (m_slices_Index_bool_bool_l1 p5955 p5957) LL 0

/-! slices.Contains[[]bool,bool] -/
def m_slices_Contains_bool_bool (p5952 : (List Bool)) (p5954 : Bool) : R Bool :=
  bindR (m_slices_Index_bool_bool p5952 p5954) fun e5992 =>
  .ok ((decide (0 ≤ e5992)))

/-! isochron/topo.Check -/
def m_topo_Check_l1 (p67 : ApiTopo) (rec6768 : Int → R Int) (s6716 : Int) : R Int :=
  if (decide (s6716 < (p67.Station.length : Int))) then (bindR (idx p67.Station s6716) fun e6774 =>
  sh (fun (s6788 : Bool) => (if s6788 then (.ok 260)
  else (rec6768 (w64 (s6716 + 1))))) fun j6792 =>
  (if e6774 then (bindR (m_topo_degree p67 s6716) fun e6795 =>
  if (decide (e6795 < 1)) then (j6792 true)
  else (bindR (m_topo_degree p67 s6716) fun e6800 =>
  j6792 (decide (2 < e6800))))
  else (j6792 false)))
  else (bindR (m_topo_reach p67 0 ([])) fun e6804 =>
  bindR (m_slices_Contains_bool_bool e6804 false) fun e6817 =>
  if e6817 then (.ok 260)
  else (.ok 0))
def m_topo_Check_l2 (p67 : ApiTopo) (rec6601 : Int → R Int) (s6382 : Int) : R Int :=
  if (decide (s6382 < (p67.Links.length : Int))) then (bindR (m_topo_validLink p67 s6382) fun e6607 =>
  if (!e6607) then (.ok 260)
  else (rec6601 (w64 (s6382 + 1))))
  else (loopM (m_topo_Check_l1 p67) LL 0)
def m_topo_Check (p67 : ApiTopo) : R Int :=
  sh ((decide (p67.Nodes < 2)) || (decide (12 < p67.Nodes))) fun (s75 : Bool) =>
  (sh (s75 || (decide ((p67.Station.length : Int) ≠ p67.Nodes))) fun (s79 : Bool) =>
  (sh (s79 || (decide (24 < (p67.Links.length : Int)))) fun (s83 : Bool) =>
  (if s83 then (.ok 260)
  else (loopM (m_topo_Check_l2 p67) LL 0))))

/-! isochron/topo.From -/
def m_topo_From (p55 : ApiTopo) (p58 : Int) : R (Int × Int) :=
  bindR (m_topo_Check p55) fun e6831 =>
  if (decide (e6831 ≠ 0)) then (.ok (0, e6831))
  else (sh ((decide (p58 < 0)) || (decide ((w64 (2 * (p55.Links.length : Int))) ≤ p58))) fun (s6837 : Bool) =>
  (if s6837 then (.ok (0, 2))
  else (bindR (idx p55.Links (w64 (Int.tdiv p58 2))) fun e6841 =>
  bindR (m_topo_end_from ((TopoEnd.mk e6841 p58))) fun e6844 =>
  .ok (e6844, 0))))

/-! isochron/topo.To -/
def m_topo_To (p6863 : ApiTopo) (p6866 : Int) : R (Int × Int) :=
  bindR (m_topo_Check p6863) fun e6875 =>
  if (decide (e6875 ≠ 0)) then (.ok (0, e6875))
  else (sh ((decide (p6866 < 0)) || (decide ((w64 (2 * (p6863.Links.length : Int))) ≤ p6866))) fun (s6881 : Bool) =>
  (if s6881 then (.ok (0, 2))
  else (bindR (idx p6863.Links (w64 (Int.tdiv p6866 2))) fun e6885 =>
  bindR (m_topo_end_to ((TopoEnd.mk e6885 p6866))) fun e6888 =>
  .ok (e6888, 0))))

/-! (isochron/topo.end).per -/
def m_topo_end_per (p6932 : TopoEnd) : R Int :=
  .ok (p6932.Link.Per)

/-! isochron/topo.Per -/
def m_topo_Per (p6907 : ApiTopo) (p6910 : Int) : R (Int × Int) :=
  bindR (m_topo_Check p6907) fun e6919 =>
  if (decide (e6919 ≠ 0)) then (.ok (0, e6919))
  else (sh ((decide (p6910 < 0)) || (decide ((w64 (2 * (p6907.Links.length : Int))) ≤ p6910))) fun (s6925 : Bool) =>
  (if s6925 then (.ok (0, 2))
  else (bindR (idx p6907.Links (w64 (Int.tdiv p6910 2))) fun e6929 =>
  bindR (m_topo_end_per ((TopoEnd.mk e6929 p6910))) fun e6937 =>
  .ok (e6937, 0))))

/-! (isochron/topo.end).delay -/
def m_topo_end_delay (p6981 : TopoEnd) : R Int :=
  .ok (p6981.Link.Delay)

/-! isochron/topo.Delay -/
def m_topo_Delay (p6956 : ApiTopo) (p6959 : Int) : R (Int × Int) :=
  bindR (m_topo_Check p6956) fun e6968 =>
  if (decide (e6968 ≠ 0)) then (.ok (0, e6968))
  else (sh ((decide (p6959 < 0)) || (decide ((w64 (2 * (p6956.Links.length : Int))) ≤ p6959))) fun (s6974 : Bool) =>
  (if s6974 then (.ok (0, 2))
  else (bindR (idx p6956.Links (w64 (Int.tdiv p6959 2))) fun e6978 =>
  bindR (m_topo_end_delay ((TopoEnd.mk e6978 p6959))) fun e6986 =>
  .ok (e6986, 0))))

/-! isochron/topo.Ports -/
def m_topo_Ports_l1 (p7370 : ApiTopo) (p7373 : Int) (rec7654 : (Int × (List Int)) → R ((List Int) × Int)) (s7573 : Int × (List Int)) : R ((List Int) × Int) :=
  if (decide (s7573.1 < (p7370.Links.length : Int))) then (bindR (idx p7370.Links s7573.1) fun e7660 =>
  bindR (m_topo_end_from ((TopoEnd.mk e7660 (w64 (2 * s7573.1))))) fun e7678 =>
  sh (fun (s7688 : (List Int)) => (bindR (m_topo_end_from ((TopoEnd.mk e7660 (w64 ((w64 (2 * s7573.1)) + 1))))) fun e7705 =>
  sh (fun (s7715 : (List Int)) => (rec7654 ((w64 (s7573.1 + 1)), s7715))) fun j7719 =>
  (if (decide (e7705 = p7373)) then (bindR (must (okLen (s7688.length + ([(w64 ((w64 (2 * s7573.1)) + 1))]).length))) fun _ =>
  j7719 (s7688 ++ ([(w64 ((w64 (2 * s7573.1)) + 1))])))
  else (j7719 s7688)))) fun j7692 =>
  (if (decide (e7678 = p7373)) then (bindR (must (okLen (s7573.2.length + ([(w64 (2 * s7573.1))]).length))) fun _ =>
  j7692 (s7573.2 ++ ([(w64 (2 * s7573.1))])))
  else (j7692 s7573.2)))
  else (.ok (s7573.2, 0))
def m_topo_Ports (p7370 : ApiTopo) (p7373 : Int) : R ((List Int) × Int) :=
  bindR (m_topo_Check p7370) fun e7382 =>
  if (decide (e7382 ≠ 0)) then (.ok ([], e7382))
  else (bindR (m_topo_isNode p7370 p7373) fun e7387 =>
  if (!e7387) then (.ok ([], 2))
  else (loopM (m_topo_Ports_l1 p7370 p7373) LL (0, [])))

/-! isochron/topo.Find -/
def m_topo_Find_l1 (p7754 : ApiTopo) (p7757 : Int) (p7758 : Int) (rec8115 : Int → R (Int × Int)) (s8016 : Int) : R (Int × Int) :=
  if (decide (s8016 < (p7754.Links.length : Int))) then (bindR (idx p7754.Links s8016) fun e8121 =>
  bindR (m_topo_end_from ((TopoEnd.mk e8121 (w64 (2 * s8016))))) fun e8139 =>
  sh (fun (s8149 : Bool) => (if s8149 then (.ok ((w64 (2 * s8016)), 0))
  else (bindR (m_topo_end_from ((TopoEnd.mk e8121 (w64 ((w64 (2 * s8016)) + 1))))) fun e8172 =>
  sh (fun (s8182 : Bool) => (if s8182 then (.ok ((w64 ((w64 (2 * s8016)) + 1)), 0))
  else (rec8115 (w64 (s8016 + 1))))) fun j8196 =>
  (if (decide (e8172 = p7757)) then (bindR (m_topo_end_to ((TopoEnd.mk e8121 (w64 ((w64 (2 * s8016)) + 1))))) fun e8199 =>
  j8196 (decide (e8199 = p7758)))
  else (j8196 false))))) fun j8203 =>
  (if (decide (e8139 = p7757)) then (bindR (m_topo_end_to ((TopoEnd.mk e8121 (w64 (2 * s8016))))) fun e8206 =>
  j8203 (decide (e8206 = p7758)))
  else (j8203 false)))
  else (.ok (0, 4))
def m_topo_Find (p7754 : ApiTopo) (p7757 : Int) (p7758 : Int) : R (Int × Int) :=
  bindR (m_topo_Check p7754) fun e7779 =>
  if (decide (e7779 ≠ 0)) then (.ok (0, e7779))
  else (bindR (m_topo_isNode p7754 p7757) fun e7788 =>
  sh (fun (s7798 : Bool) => (if s7798 then (.ok (0, 2))
  else (loopM (m_topo_Find_l1 p7754 p7757 p7758) LL 0))) fun j8216 =>
  (if (!e7788) then (j8216 true)
  else (bindR (m_topo_isNode p7754 p7758) fun e8219 =>
  j8216 (!e8219))))

/-! isochron/topo.Reach -/
def m_topo_Reach_l1 (j8486 : Bool → R ((List Bool) × Int)) (p8390 : ApiTopo) (p8394 : (List Int)) (rec8534 : Int → R ((List Bool) × Int)) (s8519 : Int) : R ((List Bool) × Int) :=
  if (decide (s8519 < (p8394.length : Int))) then (bindR (idx p8394 s8519) fun e8540 =>
  sh ((decide (e8540 < 0)) || (decide ((p8390.Links.length : Int) ≤ e8540))) fun (s8544 : Bool) =>
  (if s8544 then (j8486 (decide (0 ≤ s8519)))
  else (rec8534 (w64 (s8519 + 1)))))
  else (j8486 false)
def m_topo_Reach (p8390 : ApiTopo) (p8393 : Int) (p8394 : (List Int)) : R ((List Bool) × Int) :=
  bindR (m_topo_Check p8390) fun e8400 =>
  if (decide (e8400 ≠ 0)) then (.ok ([], e8400))
  else (bindR (m_topo_isNode p8390 p8393) fun e8405 =>
  sh (fun (s8473 : Bool) => (if s8473 then (.ok ([], 2))
  else (bindR (m_topo_reach p8390 p8393 p8394) fun e8477 =>
  .ok (e8477, 0)))) fun j8486 =>
  (if (!e8405) then (j8486 true)
  else (loopM (m_topo_Reach_l1 j8486 p8390 p8394) LL 0)))

/-! slices.Equal[[]int,int] -/
def m_slices_Equal_int_int_l1 (p8614 : (List Int)) (p8616 : (List Int)) (rec8652 : Int → R Bool) (s8641 : Int) : R Bool :=
  if (decide (s8641 < (p8614.length : Int))) then (bindR (idx p8614 s8641) fun e8658 =>
  bindR (idx p8616 s8641) fun e8661 =>
  if (decide (e8658 ≠ e8661)) then (.ok false)
  else (rec8652 (w64 (s8641 + 1))))
  else (.ok true)
def m_slices_Equal_int_int (p8614 : (List Int)) (p8616 : (List Int)) : R Bool :=
  if (decide ((p8614.length : Int) ≠ (p8616.length : Int))) then (.ok false)
  else (loopM (m_slices_Equal_int_int_l1 p8614 p8616) LL 0)

/-! slices.Equal[[]bool,bool] -/
def m_slices_Equal_bool_bool_l1 (p8688 : (List Bool)) (p8690 : (List Bool)) (rec8726 : Int → R Bool) (s8715 : Int) : R Bool :=
  if (decide (s8715 < (p8688.length : Int))) then (bindR (idx p8688 s8715) fun e8732 =>
  bindR (idx p8690 s8715) fun e8735 =>
  if (!(e8732 == e8735)) then (.ok false)
  else (rec8726 (w64 (s8715 + 1))))
  else (.ok true)
def m_slices_Equal_bool_bool (p8688 : (List Bool)) (p8690 : (List Bool)) : R Bool :=
  if (decide ((p8688.length : Int) ≠ (p8690.length : Int))) then (.ok false)
  else (loopM (m_slices_Equal_bool_bool_l1 p8688 p8690) LL 0)

/-! isochron/isochronlaw16.wakes -/
def m_isochronlaw16_wakes : R Bool :=
  bindR (m_isochronlaw16_line) fun e38 =>
  bindR (m_topo_From e38 0) fun e6859 =>
  bindR (m_topo_To e38 3) fun e6903 =>
  bindR (m_topo_Per e38 5) fun e6952 =>
  bindR (m_topo_Delay e38 4) fun e7001 =>
  bindR (m_topo_Ports e38 1) fun e7745 =>
  bindR (m_topo_Find e38 2 1) fun e8223 =>
  bindR (m_topo_Reach e38 0 ([1])) fun e8557 =>
  bindR (m_topo_From e38 6) fun e8566 =>
  sh ((decide (e6859.2 = 0)) && (decide (e6903.2 = 0))) fun (s8571 : Bool) =>
  (sh (s8571 && (decide (e6952.2 = 0))) fun (s8575 : Bool) =>
  (sh (s8575 && (decide (e7001.2 = 0))) fun (s8579 : Bool) =>
  (sh (s8579 && (decide (e7745.2 = 0))) fun (s8583 : Bool) =>
  (sh (s8583 && (decide (e8223.2 = 0))) fun (s8587 : Bool) =>
  (sh (s8587 && (decide (e8557.2 = 0))) fun (s8591 : Bool) =>
  (sh (s8591 && (decide (e6859.1 = 0))) fun (s8595 : Bool) =>
  (sh (s8595 && (decide (e6903.1 = 1))) fun (s8599 : Bool) =>
  (sh (s8599 && (decide (e6952.1 = 80))) fun (s8603 : Bool) =>
  (sh (s8603 && (decide (e7001.1 = 7))) fun (s8607 : Bool) =>
  (sh (fun (s8677 : Bool) => (sh (s8677 && (decide (e8223.1 = 3))) fun (s8681 : Bool) =>
  (sh (fun (s8751 : Bool) => (sh (s8751 && (decide (e8566.2 = 2))) fun (s8755 : Bool) =>
  (sh (fun (s8764 : Bool) => (.ok s8764)) fun j8767 =>
  (if s8755 then (bindR (m_topo_Check ((ApiTopo.mk 0 [] []))) fun e8770 =>
  j8767 (decide (e8770 = 260)))
  else (j8767 false))))) fun j8777 =>
  (if s8681 then (bindR (m_slices_Equal_bool_bool (e8557.1) ([true, true, false, false])) fun e8790 =>
  j8777 e8790)
  else (j8777 false))))) fun j8797 =>
  (if s8607 then (bindR (m_slices_Equal_int_int (e7745.1) ([1, 2])) fun e8810 =>
  j8797 e8810)
  else (j8797 false))))))))))))

/-! isochron/isochronref16.pick -/
def m_isochronref16_pick (p8905 : (List Int)) (p8907 : Int) : R Int :=
  if (decide (p8907 < (p8905.length : Int))) then (bindR (idx p8905 p8907) fun e8909 =>
  .ok ((w64 e8909)))
  else (.ok 0)

/-! isochron/isochronref16.node -/
def m_isochronref16_node (p8941 : ApiTopo) (p8944 : Int) : R Bool :=
  sh ((decide (0 ≤ p8944)) && (decide (p8944 < p8941.Nodes))) fun (s8950 : Bool) =>
  (.ok s8950)

/-! isochron/isochronref16.link -/
def m_isochronref16_link (p8929 : ApiTopo) (p8932 : ApiLink) : R Bool :=
  bindR (m_isochronref16_node p8929 (p8932.A)) fun e8956 =>
  sh (fun (s8966 : Bool) => (sh (s8966 || (decide (p8932.A = p8932.B))) fun (s8970 : Bool) =>
  (sh (fun (s8982 : Bool) => (if s8982 then (.ok false)
  else (sh ((decide (1 ≤ p8932.Per)) && (decide (p8932.Per ≤ 1000))) fun (s8987 : Bool) =>
  (sh (s8987 && (decide (0 ≤ p8932.Delay))) fun (s8991 : Bool) =>
  (sh (s8991 && (decide (p8932.Delay ≤ 10000))) fun (s8995 : Bool) =>
  (.ok s8995)))))) fun j9007 =>
  (if s8970 then (j9007 true)
  else (bindR (idx p8929.Station p8932.A) fun e9010 =>
  if e9010 then (bindR (idx p8929.Station p8932.B) fun e9014 =>
  j9007 e9014)
  else (j9007 false)))))) fun j9020 =>
  (if (!e8956) then (j9020 true)
  else (bindR (m_isochronref16_node p8929 (p8932.B)) fun e9023 =>
  j9020 (!e9023)))

/-! isochron/isochronref16.Joins -/
def m_isochronref16_Joins (p9044 : ApiLink) (p9045 : Int) (p9046 : Int) : R Bool :=
  sh ((decide (p9044.A = p9045)) && (decide (p9044.B = p9046))) fun (s9052 : Bool) =>
  (sh (s9052 || ((decide (p9044.A = p9046)) && (decide (p9044.B = p9045)))) fun (s9056 : Bool) =>
  (.ok s9056))

/-! (isochron/isochronref16.Draft).with -/
def m_isochronref16_Draft_with_l1 (e9261 : Int) (e9265 : Int) (p9236 : ApiTopo) (p9243 : Int) (p9244 : Int) (rec9353 : (Int × (List ApiLink)) → R ApiTopo) (s9331 : Int × (List ApiLink)) : R ApiTopo :=
  if (decide (s9331.1 < (p9236.Links.length : Int))) then (bindR (idx s9331.2 s9331.1) fun e9359 =>
  bindR (m_isochronref16_Joins e9359 p9243 p9244) fun e9362 =>
  if e9362 then (.ok ((ApiTopo.mk p9236.Nodes p9236.Station s9331.2)))
  else (rec9353 ((w64 (s9331.1 + 1)), s9331.2)))
  else (bindR (must (okLen (s9331.2.length + ([(ApiLink.mk p9243 p9244 (w64 (1 + (Int.tmod e9261 20))) (Int.tmod e9265 50))]).length))) fun _ =>
  .ok ((ApiTopo.mk p9236.Nodes p9236.Station (s9331.2 ++ ([(ApiLink.mk p9243 p9244 (w64 (1 + (Int.tmod e9261 20))) (Int.tmod e9265 50))])))))
def m_isochronref16_Draft_with (p9231 : Isochronref16Draft) (p9236 : ApiTopo) (p9243 : Int) (p9244 : Int) : R ApiTopo :=
  bindR (m_isochronref16_pick (p9231.Pers) ((p9236.Links.length : Int))) fun e9261 =>
  bindR (m_isochronref16_pick (p9231.Delays) ((p9236.Links.length : Int))) fun e9265 =>
  sh (fun (s9282 : Bool) => (if s9282 then (.ok p9236)
  else (loopM (m_isochronref16_Draft_with_l1 e9261 e9265 p9236 p9243 p9244) LL (0, p9236.Links)))) fun j9376 =>
  (if (decide ((p9236.Links.length : Int) = 24)) then (j9376 true)
  else (bindR (m_isochronref16_link p9236 ((ApiLink.mk p9243 p9244 (w64 (1 + (Int.tmod e9261 20))) (Int.tmod e9265 50)))) fun e9383 =>
  j9376 (!e9383)))

/-! (isochron/isochronref16.Draft).Topo -/
def m_isochronref16_Draft_Topo_l1 (p80241 : Isochronref16Draft) (rec151075 : (Int × Int × (List Bool) × (List ApiLink)) → R ApiTopo) (s151036 : Int × Int × (List Bool) × (List ApiLink)) : R ApiTopo :=
  sh ((decide ((w64 (s151036.1 + 1)) < (p80241.Chords.length : Int))) && (decide (s151036.1 < 12))) fun (s151081 : Bool) =>
  (if s151081 then (bindR (idx p80241.Chords s151036.1) fun e151085 =>
  bindR (must (decide ((w64 (1 + (w64 (Int.tmod p80241.Bridges 6)))) ≠ 0))) fun _ =>
  bindR (idx p80241.Chords (w64 (s151036.1 + 1))) fun e151089 =>
  bindR (must (decide ((w64 (1 + (w64 (Int.tmod p80241.Bridges 6)))) ≠ 0))) fun _ =>
  bindR (m_isochronref16_Draft_with p80241 ((ApiTopo.mk s151036.2.1 s151036.2.2.1 s151036.2.2.2)) ((Int.tmod (w64 e151085) (w64 (1 + (w64 (Int.tmod p80241.Bridges 6)))))) ((Int.tmod (w64 e151089) (w64 (1 + (w64 (Int.tmod p80241.Bridges 6))))))) fun e151093 =>
  rec151075 ((w64 (s151036.1 + 2)), e151093.Nodes, e151093.Station, e151093.Links))
  else (.ok ((ApiTopo.mk s151036.2.1 s151036.2.2.1 s151036.2.2.2))))
def m_isochronref16_Draft_Topo_l2 (p80241 : Isochronref16Draft) (rec150906 : (Int × Int × (List Bool) × (List ApiLink)) → R ApiTopo) (s150698 : Int × Int × (List Bool) × (List ApiLink)) : R ApiTopo :=
  if (decide (s150698.1 < (w64 (2 + (w64 (Int.tmod p80241.Stations 5)))))) then (bindR (m_isochronref16_pick (p80241.Homes) ((w64 ((w64 (2 * s150698.1)) + 1)))) fun e150912 =>
  sh (fun (s150935 : Int × (List Bool) × (List ApiLink)) => (rec150906 ((w64 (s150698.1 + 1)), s150935.1, s150935.2.1, s150935.2.2))) fun j150943 =>
  (if (decide (0 < (Int.tmod e150912 3))) then (bindR (m_isochronref16_pick (p80241.Homes) ((w64 ((w64 (2 * s150698.1)) + 1)))) fun e150945 =>
  bindR (must (decide ((w64 (1 + (w64 (Int.tmod p80241.Bridges 6)))) ≠ 0))) fun _ =>
  bindR (m_isochronref16_Draft_with p80241 ((ApiTopo.mk s150698.2.1 s150698.2.2.1 s150698.2.2.2)) ((w64 ((w64 (1 + (w64 (Int.tmod p80241.Bridges 6)))) + s150698.1))) ((Int.tmod e150945 (w64 (1 + (w64 (Int.tmod p80241.Bridges 6))))))) fun e150950 =>
  j150943 (e150950.Nodes, e150950.Station, e150950.Links))
  else (j150943 (s150698.2.1, s150698.2.2.1, s150698.2.2.2))))
  else (loopM (m_isochronref16_Draft_Topo_l1 p80241) LL (0, s150698.2.1, s150698.2.2.1, s150698.2.2.2))
def m_isochronref16_Draft_Topo_l3 (p80241 : Isochronref16Draft) (rec150236 : (Int × Int × (List Bool) × (List ApiLink)) → R ApiTopo) (s149343 : Int × Int × (List Bool) × (List ApiLink)) : R ApiTopo :=
  if (decide (s149343.1 < (w64 (2 + (w64 (Int.tmod p80241.Stations 5)))))) then (bindR (m_isochronref16_pick (p80241.Homes) ((w64 (2 * s149343.1)))) fun e150242 =>
  bindR (must (decide ((w64 (1 + (w64 (Int.tmod p80241.Bridges 6)))) ≠ 0))) fun _ =>
  bindR (m_isochronref16_Draft_with p80241 ((ApiTopo.mk s149343.2.1 s149343.2.2.1 s149343.2.2.2)) ((w64 ((w64 (1 + (w64 (Int.tmod p80241.Bridges 6)))) + s149343.1))) ((Int.tmod e150242 (w64 (1 + (w64 (Int.tmod p80241.Bridges 6))))))) fun e150247 =>
  rec150236 ((w64 (s149343.1 + 1)), e150247.Nodes, e150247.Station, e150247.Links))
  else (sh ((decide (2 < (w64 (1 + (w64 (Int.tmod p80241.Bridges 6)))))) && (decide ((Int.tmod p80241.Bridges 2) = 0))) fun (s150261 : Bool) =>
  (sh (fun (s150277 : Int × (List Bool) × (List ApiLink)) => (loopM (m_isochronref16_Draft_Topo_l2 p80241) LL (0, s150277.1, s150277.2.1, s150277.2.2))) fun j150285 =>
  (if s150261 then (bindR (m_isochronref16_Draft_with p80241 ((ApiTopo.mk s149343.2.1 s149343.2.2.1 s149343.2.2.2)) ((w64 ((w64 (1 + (w64 (Int.tmod p80241.Bridges 6)))) - 1))) 0) fun e151111 =>
  j150285 (e151111.Nodes, e151111.Station, e151111.Links))
  else (j150285 (s149343.2.1, s149343.2.2.1, s149343.2.2.2)))))
def m_isochronref16_Draft_Topo_l4 (p80241 : Isochronref16Draft) (rec147544 : (Int × Int × (List Bool) × (List ApiLink)) → R ApiTopo) (s143959 : Int × Int × (List Bool) × (List ApiLink)) : R ApiTopo :=
  if (decide (s143959.1 < (w64 (1 + (w64 (Int.tmod p80241.Bridges 6)))))) then (bindR (m_isochronref16_Draft_with p80241 ((ApiTopo.mk s143959.2.1 s143959.2.2.1 s143959.2.2.2)) ((w64 (s143959.1 - 1))) (s143959.1)) fun e147550 =>
  rec147544 ((w64 (s143959.1 + 1)), e147550.Nodes, e147550.Station, e147550.Links))
  else (loopM (m_isochronref16_Draft_Topo_l3 p80241) LL (0, s143959.2.1, s143959.2.2.1, s143959.2.2.2))
def m_isochronref16_Draft_Topo_l5 (p80241 : Isochronref16Draft) (rec132285 : (Int × (List Bool)) → R ApiTopo) (s113444 : Int × (List Bool)) : R ApiTopo :=
  if (decide (s113444.1 < (w64 ((w64 (1 + (w64 (Int.tmod p80241.Bridges 6)))) + (w64 (2 + (w64 (Int.tmod p80241.Stations 5)))))))) then (bindR (must (okLen (s113444.2.length + ([(decide ((w64 (1 + (w64 (Int.tmod p80241.Bridges 6)))) ≤ s113444.1))]).length))) fun _ =>
  rec132285 ((w64 (s113444.1 + 1)), (s113444.2 ++ ([(decide ((w64 (1 + (w64 (Int.tmod p80241.Bridges 6)))) ≤ s113444.1))]))))
  else (loopM (m_isochronref16_Draft_Topo_l4 p80241) LL (1, (w64 ((w64 (1 + (w64 (Int.tmod p80241.Bridges 6)))) + (w64 (2 + (w64 (Int.tmod p80241.Stations 5)))))), s113444.2, []))
def m_isochronref16_Draft_Topo (p80241 : Isochronref16Draft) : R ApiTopo :=
  loopM (m_isochronref16_Draft_Topo_l5 p80241) LL (0, [])

/-! isochron/isochronlaw16.TopoSpreads -/
def m_isochronlaw16_TopoSpreads_l1 (e151129 : ApiTopo) (e152131 : ((List Bool) × Int)) (s151786 : (List Int) × Int) (rec152339 : Int → R Bool) (s152301 : Int) : R Bool :=
  if (decide (s152301 < (e151129.Links.length : Int))) then (bindR (idx e151129.Links s152301) fun e152345 =>
  bindR (m_slices_Contains_int_int (s151786.1) s152301) fun e152354 =>
  sh (fun (s152366 : Bool) => (if s152366 then (.ok false)
  else (rec152339 (w64 (s152301 + 1))))) fun j152370 =>
  (if (!e152354) then (bindR (idx e152131.1 e152345.A) fun e152373 =>
  bindR (idx e152131.1 e152345.B) fun e152376 =>
  j152370 (!(e152373 == e152376)))
  else (j152370 false)))
  else (.ok true)
def m_isochronlaw16_TopoSpreads_l2 (e151129 : ApiTopo) (p6 : (List Int)) (p8 : Int) (p9 : Int) (rec152108 : ((List Int) × Int) → R Bool) (s151786 : (List Int) × Int) : R Bool :=
  if (decide (s151786.2 < ((p6.take ((min (p6.length : Int) 30)).toNat).length : Int))) then (bindR (idx (p6.take ((min (p6.length : Int) 30)).toNat) s151786.2) fun e152114 =>
  bindR (must (decide ((e151129.Links.length : Int) ≠ 0))) fun _ =>
  bindR (must (okLen (s151786.1.length + ([(Int.tmod (w64 e152114) (e151129.Links.length : Int))]).length))) fun _ =>
  rec152108 ((s151786.1 ++ ([(Int.tmod (w64 e152114) (e151129.Links.length : Int))])), (w64 (s151786.2 + 1))))
  else (bindR (must (decide (e151129.Nodes ≠ 0))) fun _ =>
  bindR (must (decide (e151129.Nodes ≠ 0))) fun _ =>
  bindR (m_topo_Reach e151129 ((Int.tmod (w64 p8) e151129.Nodes)) (s151786.1)) fun e152131 =>
  bindR (m_topo_Reach e151129 ((Int.tmod (w64 p9) e151129.Nodes)) (s151786.1)) fun e152140 =>
  bindR (m_topo_Reach e151129 ((Int.tmod (w64 p8) e151129.Nodes)) ([])) fun e152149 =>
  sh ((decide (e152131.2 ≠ 0)) || (decide (e152140.2 ≠ 0))) fun (s152159 : Bool) =>
  (sh (s152159 || (decide (e152149.2 ≠ 0))) fun (s152163 : Bool) =>
  (sh (s152163 || (decide ((e152131.1.length : Int) ≠ e151129.Nodes))) fun (s152167 : Bool) =>
  (sh (s152167 || (decide ((e152140.1.length : Int) ≠ e151129.Nodes))) fun (s152171 : Bool) =>
  (sh (fun (s152184 : Bool) => (if s152184 then (.ok false)
  else (bindR (idx e152131.1 (Int.tmod (w64 p8) e151129.Nodes)) fun e152188 =>
  sh (fun (s152199 : (List Bool) × Bool) => (sh (fun (s152221 : Bool) => (if s152221 then (.ok false)
  else (loopM (m_isochronlaw16_TopoSpreads_l1 e151129 e152131 s151786) LL 0))) fun j152379 =>
  (if s152199.2 then (j152379 true)
  else (bindR (idx e152131.1 (Int.tmod (w64 p9) e151129.Nodes)) fun e152382 =>
  if e152382 then (bindR (m_slices_Equal_bool_bool (e152131.1) (s152199.1)) fun e152394 =>
  j152379 (!e152394))
  else (j152379 false))))) fun j152398 =>
  (if (!e152188) then (j152398 (e152140.1, true))
  else (bindR (idx e152131.1 (Int.tmod (w64 p9) e151129.Nodes)) fun e152401 =>
  bindR (idx e152140.1 (Int.tmod (w64 p8) e151129.Nodes)) fun e152404 =>
  j152398 (e152140.1, (!(e152401 == e152404)))))))) fun j152407 =>
  (if s152171 then (j152407 true)
  else (bindR (m_slices_Contains_bool_bool (e152149.1) false) fun e152414 =>
  j152407 e152414)))))))
def m_isochronlaw16_TopoSpreads (p1 : Isochronref16Draft) (p6 : (List Int)) (p8 : Int) (p9 : Int) : R Bool :=
  bindR (m_isochronlaw16_wakes) fun e8844 =>
  if (!e8844) then (.ok false)
  else (bindR (m_isochronref16_Draft_Topo p1) fun e151129 =>
  bindR (must (decide (0 ≤ (min (p6.length : Int) 30) ∧ (min (p6.length : Int) 30) ≤ (p6.length : Int)))) fun _ =>
  loopM (m_isochronlaw16_TopoSpreads_l2 e151129 p6 p8 p9) LL ([], 0))

/-! isochron/isochronref16.In -/
def m_isochronref16_In_l1 (p152570 : (List Int)) (p152572 : Int) (rec152597 : Int → R Bool) (s152589 : Int) : R Bool :=
  if (decide (s152589 < (p152570.length : Int))) then (bindR (idx p152570 s152589) fun e152603 =>
  if (decide (e152603 = p152572)) then (.ok true)
  else (rec152597 (w64 (s152589 + 1))))
  else (.ok false)
def m_isochronref16_In (p152570 : (List Int)) (p152572 : Int) : R Bool :=
  loopM (m_isochronref16_In_l1 p152570 p152572) LL 0

/-! isochron/isochronref16.Reach -/
def m_isochronref16_Reach_l1 (p153761 : ApiTopo) (p153765 : (List Int)) (rec154656 : ((List Bool) × Int) → R (List Bool)) (s154363 : (List Bool) × Int) (rec154877 : ((List Bool) × Int) → R (List Bool)) (s154805 : (List Bool) × Int) : R (List Bool) :=
  if (decide (s154805.2 < (p153761.Links.length : Int))) then (bindR (idx p153761.Links s154805.2) fun e154883 =>
  bindR (m_isochronref16_In p153765 (s154805.2)) fun e154892 =>
  sh (fun (s154905 : (List Bool) × Bool) => (sh (fun (s154922 : (List Bool)) => (rec154877 (s154922, (w64 (s154805.2 + 1))))) fun j154926 =>
  (if s154905.2 then (bindR (idx s154905.1 e154883.A) fun e154928 =>
  bindR (idx (s154905.1.set (e154883.A).toNat true) e154883.B) fun e154934 =>
  j154926 ((s154905.1.set (e154883.A).toNat true).set (e154883.B).toNat true))
  else (j154926 s154905.1)))) fun j154940 =>
  (if (!e154892) then (bindR (idx s154805.1 e154883.A) fun e154943 =>
  if e154943 then (j154940 (s154805.1, true))
  else (bindR (idx s154805.1 e154883.B) fun e154947 =>
  j154940 (s154805.1, e154947)))
  else (j154940 (s154805.1, false))))
  else (rec154656 (s154805.1, (w64 (s154363.2 + 1))))
def m_isochronref16_Reach_l2 (p153761 : ApiTopo) (p153765 : (List Int)) (rec154656 : ((List Bool) × Int) → R (List Bool)) (s154363 : (List Bool) × Int) : R (List Bool) :=
  if (decide (s154363.2 < p153761.Nodes)) then (loopM (m_isochronref16_Reach_l1 p153761 p153765 rec154656 s154363) LL (s154363.1, 0))
  else (.ok (s154363.1))
def m_isochronref16_Reach (p153761 : ApiTopo) (p153764 : Int) (p153765 : (List Int)) : R (List Bool) :=
  bindR (must (decide (0 ≤ p153761.Nodes ∧ p153761.Nodes ≤ 1000000000))) fun _ =>
  bindR (idx (List.replicate (p153761.Nodes).toNat false) p153764) fun e153773 =>
  loopM (m_isochronref16_Reach_l2 p153761 p153765) LL (((List.replicate (p153761.Nodes).toNat false).set (p153764).toNat true), 0)

/-! isochron/isochronref16.Right -/
def m_isochronref16_Right_l1 (e155747 : ApiLink) (p152430 : ApiTopo) (rec155741 : ((List Int) × Int) → R Bool) (s155429 : (List Int) × Int) (rec155851 : Int → R Bool) (s155821 : Int) : R Bool :=
  if (decide (s155821 < s155429.2)) then (bindR (idx p152430.Links s155821) fun e155857 =>
  bindR (m_isochronref16_Joins e155857 (e155747.A) (e155747.B)) fun e155860 =>
  if e155860 then (.ok false)
  else (rec155851 (w64 (s155821 + 1))))
  else (bindR (idx s155429.1 e155747.A) fun e155865 =>
  bindR (idx s155429.1 e155747.A) fun e155868 =>
  bindR (idx (s155429.1.set (e155747.A).toNat (w64 (e155865 + 1))) e155747.B) fun e155874 =>
  bindR (idx (s155429.1.set (e155747.A).toNat (w64 (e155865 + 1))) e155747.B) fun e155877 =>
  rec155741 (((s155429.1.set (e155747.A).toNat (w64 (e155865 + 1))).set (e155747.B).toNat (w64 (e155874 + 1))), (w64 (s155429.2 + 1))))
def m_isochronref16_Right_l2 (p152430 : ApiTopo) (rec156013 : ((List Int) × (List Bool) × Int) → R Bool) (s155972 : (List Int) × (List Bool) × Int) : R Bool :=
  if (decide (s155972.2.2 < p152430.Nodes)) then (bindR (idx s155972.2.1 s155972.2.2) fun e156019 =>
  sh (fun (s156035 : (List Int) × Bool) => (if s156035.2 then (.ok false)
  else (rec156013 (s156035.1, s155972.2.1, (w64 (s155972.2.2 + 1)))))) fun j156040 =>
  (if (!e156019) then (j156040 (s155972.1, true))
  else (bindR (idx p152430.Station s155972.2.2) fun e156043 =>
  if e156043 then (bindR (idx s155972.1 s155972.2.2) fun e156047 =>
  if (decide (e156047 < 1)) then (j156040 (s155972.1, true))
  else (bindR (idx s155972.1 s155972.2.2) fun e156051 =>
  j156040 (s155972.1, (decide (2 < e156051)))))
  else (j156040 (s155972.1, false)))))
  else (.ok true)
def m_isochronref16_Right_l3 (p152430 : ApiTopo) (rec155741 : ((List Int) × Int) → R Bool) (s155429 : (List Int) × Int) : R Bool :=
  if (decide (s155429.2 < (p152430.Links.length : Int))) then (bindR (idx p152430.Links s155429.2) fun e155747 =>
  bindR (m_isochronref16_link p152430 e155747) fun e155756 =>
  if (!e155756) then (.ok false)
  else (loopM (m_isochronref16_Right_l1 e155747 p152430 rec155741 s155429) LL 0))
  else (bindR (m_isochronref16_Reach p152430 0 ([])) fun e155883 =>
  loopM (m_isochronref16_Right_l2 p152430) LL (s155429.1, e155883, 0))
def m_isochronref16_Right (p152430 : ApiTopo) : R Bool :=
  sh ((decide (p152430.Nodes < 2)) || (decide (12 < p152430.Nodes))) fun (s152438 : Bool) =>
  (sh (s152438 || (decide ((p152430.Station.length : Int) ≠ p152430.Nodes))) fun (s152442 : Bool) =>
  (sh (s152442 || (decide (24 < (p152430.Links.length : Int)))) fun (s152446 : Bool) =>
  (if s152446 then (.ok false)
  else (bindR (must (decide (0 ≤ p152430.Nodes ∧ p152430.Nodes ≤ 1000000000))) fun _ =>
  loopM (m_isochronref16_Right_l3 p152430) LL ((List.replicate (p152430.Nodes).toNat 0), 0)))))
end Go.AM
