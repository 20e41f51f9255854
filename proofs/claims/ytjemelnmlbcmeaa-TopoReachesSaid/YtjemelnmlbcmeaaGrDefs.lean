/- Printed: functions of the given program as functions over plain data, and that the machine does what they say; no claim of its own; no condition. -/
import Derived.Test.YtjemelnmlbcmeaaLfN
set_option maxRecDepth 100000
set_option maxHeartbeats 4000000
set_option linter.unusedVariables false
set_option linter.unusedSimpArgs false
namespace Go.AM
open Go

structure ApiLink where
  A : Int
  B : Int
  Per : Int
  Delay : Int
  deriving Inhabited
def eApiLink : Enc ApiLink := eMap (fun s => (s.A, s.B, s.Per, s.Delay, ())) (ePair (eInt .i64) (ePair (eInt .i64) (ePair (eInt .i64) (ePair (eInt .i64) eUnit))))
theorem eApiLink_el {φ : Fz} {cs : List Value} {x : ApiLink} (h : eApiLink.R φ cs x) : cs = [.int .i64 x.A, .int .i64 x.B, .int .i64 x.Per, .int .i64 x.Delay] := by
  obtain ⟨p1, r1, e1, g1, p2, r2, e2, g2, p3, r3, e3, g3, p4, r4, e4, g4, gl⟩ := h
  have gl : r4 = [] := gl
  have g1 : p1 = [.int .i64 x.A] := g1
  have g2 : p2 = [.int .i64 x.B] := g2
  have g3 : p3 = [.int .i64 x.Per] := g3
  have g4 : p4 = [.int .i64 x.Delay] := g4
  subst gl
  subst g1 g2 g3 g4
  subst e4
  subst e3
  subst e2
  subst e1
  exact rfl
structure ApiTopo where
  Nodes : Int
  Station : (List Bool)
  Links : (List ApiLink)
  deriving Inhabited
def eApiTopo : Enc ApiTopo := eMap (fun s => (s.Nodes, s.Station, s.Links, ())) (ePair (eInt .i64) (ePair (eSl eBool) (ePair (eSl eApiLink) eUnit)))
theorem eApiTopo_el {φ : Fz} {cs : List Value} {x : ApiTopo} (h : eApiTopo.R φ cs x) : ∃ a13011 n13011 c13011, ∃ a13012 n13012 c13012, cs = [.int .i64 x.Nodes, .slice a13011 n13011 c13011, .slice a13012 n13012 c13012] ∧ RSl eBool φ (.slice a13011 n13011 c13011) x.Station ∧ RSl eApiLink φ (.slice a13012 n13012 c13012) x.Links := by
  obtain ⟨p1, r1, e1, g1, p2, r2, e2, g2, p3, r3, e3, g3, gl⟩ := h
  have gl : r3 = [] := gl
  have g1 : p1 = [.int .i64 x.Nodes] := g1
  obtain ⟨a2, n2, c2, g2, R2⟩ := g2
  obtain ⟨a3, n3, c3, g3, R3⟩ := g3
  subst gl
  subst g1 g2 g3
  subst e3
  subst e2
  subst e1
  exact ⟨a2, n2, c2, a3, n3, c3, rfl, R2, R3⟩
structure TopoEnd where
  Link : ApiLink
  port : Int
  deriving Inhabited
def eTopoEnd : Enc TopoEnd := eMap (fun s => (s.Link, s.port, ())) (ePair eApiLink (ePair (eInt .i64) eUnit))
theorem eTopoEnd_el {φ : Fz} {cs : List Value} {x : TopoEnd} (h : eTopoEnd.R φ cs x) : cs = [.int .i64 x.Link.A, .int .i64 x.Link.B, .int .i64 x.Link.Per, .int .i64 x.Link.Delay, .int .i64 x.port] := by
  obtain ⟨p1, r1, e1, g1, p2, r2, e2, g2, gl⟩ := h
  have gl : r2 = [] := gl
  obtain g1 := eApiLink_el g1
  have g2 : p2 = [.int .i64 x.port] := g2
  subst gl
  subst g1 g2
  subst e2
  subst e1
  exact rfl


/-! isochron/isochronlaw16.line -/
def m_isochronlaw16_line : R ApiTopo :=
  .ok ((ApiTopo.mk 4 [true, false, false, true] [(ApiLink.mk 0 1 8 50), (ApiLink.mk 1 2 8 0), (ApiLink.mk 2 3 80 7)]))

/-! isochron/topo.isNode -/
def m_topo_isNode (p115 : ApiTopo) (p118 : Int) : R Bool :=
  sh ((decide (0 ≤ p118)) && (decide (p118 < p115.Nodes))) fun (s124 : Bool) =>
  (.ok s124)

/-! isochron/topo.validLink -/
def m_topo_validLink_l1 (e100 : ApiLink) (p88 : ApiTopo) (p91 : Int) (rec257 : Int → R Bool) (s229 : Int) : R Bool :=
  if (decide (s229 < ((p88.Links.take (p91).toNat).length : Int))) then (bindR (idx (p88.Links.take (p91).toNat) s229) fun e263 =>
  sh ((decide (e263.A = e100.A)) && (decide (e263.B = e100.B))) fun (s271 : Bool) =>
  (sh (s271 || ((decide (e263.A = e100.B)) && (decide (e263.B = e100.A)))) fun (s275 : Bool) =>
  (if s275 then (if (!(!(decide (0 ≤ s229)))) then (.ok false)
  else (.ok true))
  else (rec257 (w64 (s229 + 1))))))
  else (.ok true)
def m_topo_validLink (p88 : ApiTopo) (p91 : Int) : R Bool :=
  bindR (idx p88.Links p91) fun e100 =>
  bindR (m_topo_isNode p88 (e100.A)) fun e130 =>
  sh (fun (s140 : Bool) => (sh (s140 && (decide (e100.A ≠ e100.B))) fun (s144 : Bool) =>
  (if (!s144) then (.ok false)
  else (bindR (idx p88.Station e100.A) fun e148 =>
  sh (fun (s156 : Bool) => (if (!s156) then (.ok false)
  else (sh ((decide (1 ≤ e100.Per)) && (decide (e100.Per ≤ 1000))) fun (s161 : Bool) =>
  (sh (s161 && (decide (0 ≤ e100.Delay))) fun (s165 : Bool) =>
  (sh (s165 && (decide (e100.Delay ≤ 10000))) fun (s169 : Bool) =>
  (if (!s169) then (.ok false)
  else (bindR (must (decide (0 ≤ p91 ∧ p91 ≤ (p88.Links.length : Int)))) fun _ =>
  loopM (m_topo_validLink_l1 e100 p88 p91) LL 0))))))) fun j296 =>
  (if (!e148) then (j296 true)
  else (bindR (idx p88.Station e100.B) fun e299 =>
  j296 (!e299))))))) fun j305 =>
  (if e130 then (bindR (m_topo_isNode p88 (e100.B)) fun e308 =>
  j305 e308)
  else (j305 false))

/-! (isochron/topo.end).from -/
def m_topo_end_from (p378 : TopoEnd) : R Int :=
  if (decide ((Int.tmod p378.port 2) = 0)) then (.ok (p378.Link.A))
  else (.ok (p378.Link.B))

/-! isochron/topo.degree -/
def m_topo_degree_l1 (p326 : ApiTopo) (p329 : Int) (rec557 : (Int × Int) → R Int) (s492 : Int × Int) : R Int :=
  if (decide (s492.1 < (p326.Links.length : Int))) then (bindR (idx p326.Links s492.1) fun e563 =>
  bindR (m_topo_end_from ((TopoEnd.mk e563 (w64 (2 * s492.1))))) fun e581 =>
  sh (fun (s588 : Int) => (bindR (m_topo_end_from ((TopoEnd.mk e563 (w64 ((w64 (2 * s492.1)) + 1))))) fun e604 =>
  sh (fun (s611 : Int) => (rec557 ((w64 (s492.1 + 1)), s611))) fun j614 =>
  (if (decide (e604 = p329)) then (j614 (w64 (s588 + 1)))
  else (j614 s588)))) fun j591 =>
  (if (decide (e581 = p329)) then (j591 (w64 (s492.2 + 1)))
  else (j591 s492.2)))
  else (.ok (s492.2))
def m_topo_degree (p326 : ApiTopo) (p329 : Int) : R Int :=
  loopM (m_topo_degree_l1 p326 p329) LL (0, 0)

/-! (isochron/topo.end).to -/
def m_topo_end_to (p723 : TopoEnd) : R Int :=
  bindR (m_topo_end_from p723) fun e728 =>
  .ok ((w64 ((w64 (p723.Link.A + p723.Link.B)) - e728)))

/-! slices.Index[[]int,int] -/
def m_slices_Index_int_int_l1 (p747 : (List Int)) (p749 : Int) (rec774 : Int → R Int) (s766 : Int) : R Int :=
  if (decide (s766 < (p747.length : Int))) then (bindR (idx p747 s766) fun e780 =>
  if (decide (p749 = e780)) then (.ok s766)
  else (rec774 (w64 (s766 + 1))))
  else (.ok ((-1)))
def m_slices_Index_int_int (p747 : (List Int)) (p749 : Int) : R Int :=
  loopM (m_slices_Index_int_int_l1 p747 p749) LL 0

/-! slices.Contains[[]int,int] -/
def m_slices_Contains_int_int (p744 : (List Int)) (p746 : Int) : R Bool :=
  bindR (m_slices_Index_int_int p744 p746) fun e784 =>
  .ok ((decide (0 ≤ e784)))

/-! isochron/topo.reach -/
def m_topo_reach_l1 (p3320 : ApiTopo) (p3324 : (List Int)) (rec5289 : (List Bool) → R (List Bool)) (rec5779 : (Int × (List Bool)) → R (List Bool)) (s5621 : Int × (List Bool)) : R (List Bool) :=
  if (decide (s5621.1 < (p3320.Links.length : Int))) then (bindR (idx p3320.Links s5621.1) fun e5785 =>
  bindR (m_topo_end_from ((TopoEnd.mk e5785 (w64 (2 * s5621.1))))) fun e5803 =>
  bindR (idx s5621.2 e5803) fun e5807 =>
  sh (fun (s5819 : Bool) => (sh (fun (s5828 : Bool) => (if s5828 then (bindR (m_topo_end_to ((TopoEnd.mk e5785 (w64 (2 * s5621.1))))) fun e5832 =>
  bindR (idx s5621.2 e5832) fun e5836 =>
  rec5289 (s5621.2.set (e5832).toNat true))
  else (bindR (m_topo_end_from ((TopoEnd.mk e5785 (w64 ((w64 (2 * s5621.1)) + 1))))) fun e5857 =>
  bindR (idx s5621.2 e5857) fun e5861 =>
  sh (fun (s5873 : Bool) => (sh (fun (s5882 : Bool) => (if s5882 then (bindR (m_topo_end_to ((TopoEnd.mk e5785 (w64 ((w64 (2 * s5621.1)) + 1))))) fun e5886 =>
  bindR (idx s5621.2 e5886) fun e5890 =>
  rec5289 (s5621.2.set (e5886).toNat true))
  else (rec5779 ((w64 (s5621.1 + 1)), s5621.2)))) fun j5902 =>
  (if s5873 then (bindR (m_slices_Contains_int_int p3324 ((w64 (Int.tdiv (w64 ((w64 (2 * s5621.1)) + 1)) 2)))) fun e5905 =>
  j5902 (!e5905))
  else (j5902 false)))) fun j5909 =>
  (if e5861 then (bindR (m_topo_end_to ((TopoEnd.mk e5785 (w64 ((w64 (2 * s5621.1)) + 1))))) fun e5912 =>
  bindR (idx s5621.2 e5912) fun e5916 =>
  j5909 (!e5916))
  else (j5909 false))))) fun j5919 =>
  (if s5819 then (bindR (m_slices_Contains_int_int p3324 ((w64 (Int.tdiv (w64 (2 * s5621.1)) 2)))) fun e5922 =>
  j5919 (!e5922))
  else (j5919 false)))) fun j5926 =>
  (if e5807 then (bindR (m_topo_end_to ((TopoEnd.mk e5785 (w64 (2 * s5621.1))))) fun e5929 =>
  bindR (idx s5621.2 e5929) fun e5933 =>
  j5926 (!e5933))
  else (j5926 false)))
  else (.ok (s5621.2))
def m_topo_reach_l2 (p3320 : ApiTopo) (p3324 : (List Int)) (rec5289 : (List Bool) → R (List Bool)) (s4641 : (List Bool)) : R (List Bool) :=
  loopM (m_topo_reach_l1 p3320 p3324 rec5289) LL (0, s4641)
def m_topo_reach (p3320 : ApiTopo) (p3323 : Int) (p3324 : (List Int)) : R (List Bool) :=
  bindR (must (decide (0 ≤ p3320.Nodes ∧ p3320.Nodes ≤ 1000000000))) fun _ =>
  bindR (idx (List.replicate (p3320.Nodes).toNat false) p3323) fun e3342 =>
  loopM (m_topo_reach_l2 p3320 p3324) LL ((List.replicate (p3320.Nodes).toNat false).set (p3323).toNat true)

/-! slices.Index[[]bool,bool] -/
def m_slices_Index_bool_bool_l1 (p5952 : (List Bool)) (p5954 : Bool) (rec5979 : Int → R Int) (s5971 : Int) : R Int :=
  if (decide (s5971 < (p5952.length : Int))) then (bindR (idx p5952 s5971) fun e5985 =>
  if (p5954 == e5985) then (.ok s5971)
  else (rec5979 (w64 (s5971 + 1))))
  else (.ok ((-1)))
def m_slices_Index_bool_bool (p5952 : (List Bool)) (p5954 : Bool) : R Int :=
  loopM (m_slices_Index_bool_bool_l1 p5952 p5954) LL 0

/-! slices.Contains[[]bool,bool] -/
def m_slices_Contains_bool_bool (p5949 : (List Bool)) (p5951 : Bool) : R Bool :=
  bindR (m_slices_Index_bool_bool p5949 p5951) fun e5989 =>
  .ok ((decide (0 ≤ e5989)))

/-! isochron/topo.Check -/
def m_topo_Check_l1 (p64 : ApiTopo) (rec6765 : Int → R Int) (s6713 : Int) : R Int :=
  if (decide (s6713 < (p64.Station.length : Int))) then (bindR (idx p64.Station s6713) fun e6771 =>
  sh (fun (s6785 : Bool) => (if s6785 then (.ok 260)
  else (rec6765 (w64 (s6713 + 1))))) fun j6789 =>
  (if e6771 then (bindR (m_topo_degree p64 s6713) fun e6792 =>
  if (decide (e6792 < 1)) then (j6789 true)
  else (bindR (m_topo_degree p64 s6713) fun e6797 =>
  j6789 (decide (2 < e6797))))
  else (j6789 false)))
  else (bindR (m_topo_reach p64 0 ([])) fun e6801 =>
  bindR (m_slices_Contains_bool_bool e6801 false) fun e6814 =>
  if e6814 then (.ok 260)
  else (.ok 0))
def m_topo_Check_l2 (p64 : ApiTopo) (rec6598 : Int → R Int) (s6379 : Int) : R Int :=
  if (decide (s6379 < (p64.Links.length : Int))) then (bindR (m_topo_validLink p64 s6379) fun e6604 =>
  if (!e6604) then (.ok 260)
  else (rec6598 (w64 (s6379 + 1))))
  else (loopM (m_topo_Check_l1 p64) LL 0)
def m_topo_Check (p64 : ApiTopo) : R Int :=
  sh ((decide (p64.Nodes < 2)) || (decide (12 < p64.Nodes))) fun (s72 : Bool) =>
  (sh (s72 || (decide ((p64.Station.length : Int) ≠ p64.Nodes))) fun (s76 : Bool) =>
  (sh (s76 || (decide (24 < (p64.Links.length : Int)))) fun (s80 : Bool) =>
  (if s80 then (.ok 260)
  else (loopM (m_topo_Check_l2 p64) LL 0))))

/-! isochron/topo.From -/
def m_topo_From (p52 : ApiTopo) (p55 : Int) : R (Int × Int) :=
  bindR (m_topo_Check p52) fun e6828 =>
  if (decide (e6828 ≠ 0)) then (.ok (0, e6828))
  else (sh ((decide (p55 < 0)) || (decide ((w64 (2 * (p52.Links.length : Int))) ≤ p55))) fun (s6834 : Bool) =>
  (if s6834 then (.ok (0, 2))
  else (bindR (idx p52.Links (w64 (Int.tdiv p55 2))) fun e6838 =>
  bindR (m_topo_end_from ((TopoEnd.mk e6838 p55))) fun e6841 =>
  .ok (e6841, 0))))

/-! isochron/topo.To -/
def m_topo_To (p6860 : ApiTopo) (p6863 : Int) : R (Int × Int) :=
  bindR (m_topo_Check p6860) fun e6872 =>
  if (decide (e6872 ≠ 0)) then (.ok (0, e6872))
  else (sh ((decide (p6863 < 0)) || (decide ((w64 (2 * (p6860.Links.length : Int))) ≤ p6863))) fun (s6878 : Bool) =>
  (if s6878 then (.ok (0, 2))
  else (bindR (idx p6860.Links (w64 (Int.tdiv p6863 2))) fun e6882 =>
  bindR (m_topo_end_to ((TopoEnd.mk e6882 p6863))) fun e6885 =>
  .ok (e6885, 0))))

/-! (isochron/topo.end).per -/
def m_topo_end_per (p6929 : TopoEnd) : R Int :=
  .ok (p6929.Link.Per)

/-! isochron/topo.Per -/
def m_topo_Per (p6904 : ApiTopo) (p6907 : Int) : R (Int × Int) :=
  bindR (m_topo_Check p6904) fun e6916 =>
  if (decide (e6916 ≠ 0)) then (.ok (0, e6916))
  else (sh ((decide (p6907 < 0)) || (decide ((w64 (2 * (p6904.Links.length : Int))) ≤ p6907))) fun (s6922 : Bool) =>
  (if s6922 then (.ok (0, 2))
  else (bindR (idx p6904.Links (w64 (Int.tdiv p6907 2))) fun e6926 =>
  bindR (m_topo_end_per ((TopoEnd.mk e6926 p6907))) fun e6934 =>
  .ok (e6934, 0))))

/-! (isochron/topo.end).delay -/
def m_topo_end_delay (p6978 : TopoEnd) : R Int :=
  .ok (p6978.Link.Delay)

/-! isochron/topo.Delay -/
def m_topo_Delay (p6953 : ApiTopo) (p6956 : Int) : R (Int × Int) :=
  bindR (m_topo_Check p6953) fun e6965 =>
  if (decide (e6965 ≠ 0)) then (.ok (0, e6965))
  else (sh ((decide (p6956 < 0)) || (decide ((w64 (2 * (p6953.Links.length : Int))) ≤ p6956))) fun (s6971 : Bool) =>
  (if s6971 then (.ok (0, 2))
  else (bindR (idx p6953.Links (w64 (Int.tdiv p6956 2))) fun e6975 =>
  bindR (m_topo_end_delay ((TopoEnd.mk e6975 p6956))) fun e6983 =>
  .ok (e6983, 0))))

/-! isochron/topo.Ports -/
def m_topo_Ports_l1 (p7367 : ApiTopo) (p7370 : Int) (rec7651 : (Int × (List Int)) → R ((List Int) × Int)) (s7570 : Int × (List Int)) : R ((List Int) × Int) :=
  if (decide (s7570.1 < (p7367.Links.length : Int))) then (bindR (idx p7367.Links s7570.1) fun e7657 =>
  bindR (m_topo_end_from ((TopoEnd.mk e7657 (w64 (2 * s7570.1))))) fun e7675 =>
  sh (fun (s7685 : (List Int)) => (bindR (m_topo_end_from ((TopoEnd.mk e7657 (w64 ((w64 (2 * s7570.1)) + 1))))) fun e7702 =>
  sh (fun (s7712 : (List Int)) => (rec7651 ((w64 (s7570.1 + 1)), s7712))) fun j7716 =>
  (if (decide (e7702 = p7370)) then (bindR (must (okLen (s7685.length + ([(w64 ((w64 (2 * s7570.1)) + 1))]).length))) fun _ =>
  j7716 (s7685 ++ ([(w64 ((w64 (2 * s7570.1)) + 1))])))
  else (j7716 s7685)))) fun j7689 =>
  (if (decide (e7675 = p7370)) then (bindR (must (okLen (s7570.2.length + ([(w64 (2 * s7570.1))]).length))) fun _ =>
  j7689 (s7570.2 ++ ([(w64 (2 * s7570.1))])))
  else (j7689 s7570.2)))
  else (.ok (s7570.2, 0))
def m_topo_Ports (p7367 : ApiTopo) (p7370 : Int) : R ((List Int) × Int) :=
  bindR (m_topo_Check p7367) fun e7379 =>
  if (decide (e7379 ≠ 0)) then (.ok ([], e7379))
  else (bindR (m_topo_isNode p7367 p7370) fun e7384 =>
  if (!e7384) then (.ok ([], 2))
  else (loopM (m_topo_Ports_l1 p7367 p7370) LL (0, [])))

/-! isochron/topo.Find -/
def m_topo_Find_l1 (p7751 : ApiTopo) (p7754 : Int) (p7755 : Int) (rec8112 : Int → R (Int × Int)) (s8013 : Int) : R (Int × Int) :=
  if (decide (s8013 < (p7751.Links.length : Int))) then (bindR (idx p7751.Links s8013) fun e8118 =>
  bindR (m_topo_end_from ((TopoEnd.mk e8118 (w64 (2 * s8013))))) fun e8136 =>
  sh (fun (s8146 : Bool) => (if s8146 then (.ok ((w64 (2 * s8013)), 0))
  else (bindR (m_topo_end_from ((TopoEnd.mk e8118 (w64 ((w64 (2 * s8013)) + 1))))) fun e8169 =>
  sh (fun (s8179 : Bool) => (if s8179 then (.ok ((w64 ((w64 (2 * s8013)) + 1)), 0))
  else (rec8112 (w64 (s8013 + 1))))) fun j8193 =>
  (if (decide (e8169 = p7754)) then (bindR (m_topo_end_to ((TopoEnd.mk e8118 (w64 ((w64 (2 * s8013)) + 1))))) fun e8196 =>
  j8193 (decide (e8196 = p7755)))
  else (j8193 false))))) fun j8200 =>
  (if (decide (e8136 = p7754)) then (bindR (m_topo_end_to ((TopoEnd.mk e8118 (w64 (2 * s8013))))) fun e8203 =>
  j8200 (decide (e8203 = p7755)))
  else (j8200 false)))
  else (.ok (0, 4))
def m_topo_Find (p7751 : ApiTopo) (p7754 : Int) (p7755 : Int) : R (Int × Int) :=
  bindR (m_topo_Check p7751) fun e7776 =>
  if (decide (e7776 ≠ 0)) then (.ok (0, e7776))
  else (bindR (m_topo_isNode p7751 p7754) fun e7785 =>
  sh (fun (s7795 : Bool) => (if s7795 then (.ok (0, 2))
  else (loopM (m_topo_Find_l1 p7751 p7754 p7755) LL 0))) fun j8213 =>
  (if (!e7785) then (j8213 true)
  else (bindR (m_topo_isNode p7751 p7755) fun e8216 =>
  j8213 (!e8216))))

/-! isochron/topo.Reach -/
def m_topo_Reach_l1 (j8483 : Bool → R ((List Bool) × Int)) (p8387 : ApiTopo) (p8391 : (List Int)) (rec8531 : Int → R ((List Bool) × Int)) (s8516 : Int) : R ((List Bool) × Int) :=
  if (decide (s8516 < (p8391.length : Int))) then (bindR (idx p8391 s8516) fun e8537 =>
  sh ((decide (e8537 < 0)) || (decide ((p8387.Links.length : Int) ≤ e8537))) fun (s8541 : Bool) =>
  (if s8541 then (j8483 (decide (0 ≤ s8516)))
  else (rec8531 (w64 (s8516 + 1)))))
  else (j8483 false)
def m_topo_Reach (p8387 : ApiTopo) (p8390 : Int) (p8391 : (List Int)) : R ((List Bool) × Int) :=
  bindR (m_topo_Check p8387) fun e8397 =>
  if (decide (e8397 ≠ 0)) then (.ok ([], e8397))
  else (bindR (m_topo_isNode p8387 p8390) fun e8402 =>
  sh (fun (s8470 : Bool) => (if s8470 then (.ok ([], 2))
  else (bindR (m_topo_reach p8387 p8390 p8391) fun e8474 =>
  .ok (e8474, 0)))) fun j8483 =>
  (if (!e8402) then (j8483 true)
  else (loopM (m_topo_Reach_l1 j8483 p8387 p8391) LL 0)))

/-! slices.Equal[[]int,int] -/
def m_slices_Equal_int_int_l1 (p8611 : (List Int)) (p8613 : (List Int)) (rec8649 : Int → R Bool) (s8638 : Int) : R Bool :=
  if (decide (s8638 < (p8611.length : Int))) then (bindR (idx p8611 s8638) fun e8655 =>
  bindR (idx p8613 s8638) fun e8658 =>
  if (decide (e8655 ≠ e8658)) then (.ok false)
  else (rec8649 (w64 (s8638 + 1))))
  else (.ok true)
def m_slices_Equal_int_int (p8611 : (List Int)) (p8613 : (List Int)) : R Bool :=
  if (decide ((p8611.length : Int) ≠ (p8613.length : Int))) then (.ok false)
  else (loopM (m_slices_Equal_int_int_l1 p8611 p8613) LL 0)

/-! slices.Equal[[]bool,bool] -/
def m_slices_Equal_bool_bool_l1 (p8685 : (List Bool)) (p8687 : (List Bool)) (rec8723 : Int → R Bool) (s8712 : Int) : R Bool :=
  if (decide (s8712 < (p8685.length : Int))) then (bindR (idx p8685 s8712) fun e8729 =>
  bindR (idx p8687 s8712) fun e8732 =>
  if (!(e8729 == e8732)) then (.ok false)
  else (rec8723 (w64 (s8712 + 1))))
  else (.ok true)
def m_slices_Equal_bool_bool (p8685 : (List Bool)) (p8687 : (List Bool)) : R Bool :=
  if (decide ((p8685.length : Int) ≠ (p8687.length : Int))) then (.ok false)
  else (loopM (m_slices_Equal_bool_bool_l1 p8685 p8687) LL 0)

/-! isochron/isochronlaw16.wakes -/
def m_isochronlaw16_wakes : R Bool :=
  bindR (m_isochronlaw16_line) fun e35 =>
  bindR (m_topo_From e35 0) fun e6856 =>
  bindR (m_topo_To e35 3) fun e6900 =>
  bindR (m_topo_Per e35 5) fun e6949 =>
  bindR (m_topo_Delay e35 4) fun e6998 =>
  bindR (m_topo_Ports e35 1) fun e7742 =>
  bindR (m_topo_Find e35 2 1) fun e8220 =>
  bindR (m_topo_Reach e35 0 ([1])) fun e8554 =>
  bindR (m_topo_From e35 6) fun e8563 =>
  sh ((decide (e6856.2 = 0)) && (decide (e6900.2 = 0))) fun (s8568 : Bool) =>
  (sh (s8568 && (decide (e6949.2 = 0))) fun (s8572 : Bool) =>
  (sh (s8572 && (decide (e6998.2 = 0))) fun (s8576 : Bool) =>
  (sh (s8576 && (decide (e7742.2 = 0))) fun (s8580 : Bool) =>
  (sh (s8580 && (decide (e8220.2 = 0))) fun (s8584 : Bool) =>
  (sh (s8584 && (decide (e8554.2 = 0))) fun (s8588 : Bool) =>
  (sh (s8588 && (decide (e6856.1 = 0))) fun (s8592 : Bool) =>
  (sh (s8592 && (decide (e6900.1 = 1))) fun (s8596 : Bool) =>
  (sh (s8596 && (decide (e6949.1 = 80))) fun (s8600 : Bool) =>
  (sh (s8600 && (decide (e6998.1 = 7))) fun (s8604 : Bool) =>
  (sh (fun (s8674 : Bool) => (sh (s8674 && (decide (e8220.1 = 3))) fun (s8678 : Bool) =>
  (sh (fun (s8748 : Bool) => (sh (s8748 && (decide (e8563.2 = 2))) fun (s8752 : Bool) =>
  (sh (fun (s8761 : Bool) => (.ok s8761)) fun j8764 =>
  (if s8752 then (bindR (m_topo_Check ((ApiTopo.mk 0 [] []))) fun e8767 =>
  j8764 (decide (e8767 = 260)))
  else (j8764 false))))) fun j8774 =>
  (if s8678 then (bindR (m_slices_Equal_bool_bool (e8554.1) ([true, true, false, false])) fun e8787 =>
  j8774 e8787)
  else (j8774 false))))) fun j8794 =>
  (if s8604 then (bindR (m_slices_Equal_int_int (e7742.1) ([1, 2])) fun e8807 =>
  j8794 e8807)
  else (j8794 false))))))))))))

/-! isochron/isochronlaw16.few -/
def m_isochronlaw16_few (p8869 : ApiTopo) : R ApiTopo :=
  bindR (must (decide (0 ≤ (min (p8869.Station.length : Int) 20) ∧ (min (p8869.Station.length : Int) 20) ≤ (p8869.Station.length : Int)))) fun _ =>
  bindR (must (decide (0 ≤ (min (p8869.Links.length : Int) 30) ∧ (min (p8869.Links.length : Int) 30) ≤ (p8869.Links.length : Int)))) fun _ =>
  .ok ((ApiTopo.mk p8869.Nodes (p8869.Station.take ((min (p8869.Station.length : Int) 20)).toNat) (p8869.Links.take ((min (p8869.Links.length : Int) 30)).toNat)))

/-! isochron/isochronref16.node -/
def m_isochronref16_node (p8960 : ApiTopo) (p8963 : Int) : R Bool :=
  sh ((decide (0 ≤ p8963)) && (decide (p8963 < p8960.Nodes))) fun (s8969 : Bool) =>
  (.ok s8969)

/-! isochron/isochronref16.link -/
def m_isochronref16_link (p8948 : ApiTopo) (p8951 : ApiLink) : R Bool :=
  bindR (m_isochronref16_node p8948 (p8951.A)) fun e8975 =>
  sh (fun (s8985 : Bool) => (sh (s8985 || (decide (p8951.A = p8951.B))) fun (s8989 : Bool) =>
  (sh (fun (s9001 : Bool) => (if s9001 then (.ok false)
  else (sh ((decide (1 ≤ p8951.Per)) && (decide (p8951.Per ≤ 1000))) fun (s9006 : Bool) =>
  (sh (s9006 && (decide (0 ≤ p8951.Delay))) fun (s9010 : Bool) =>
  (sh (s9010 && (decide (p8951.Delay ≤ 10000))) fun (s9014 : Bool) =>
  (.ok s9014)))))) fun j9026 =>
  (if s8989 then (j9026 true)
  else (bindR (idx p8948.Station p8951.A) fun e9029 =>
  if e9029 then (bindR (idx p8948.Station p8951.B) fun e9033 =>
  j9026 e9033)
  else (j9026 false)))))) fun j9039 =>
  (if (!e8975) then (j9039 true)
  else (bindR (m_isochronref16_node p8948 (p8951.B)) fun e9042 =>
  j9039 (!e9042)))

/-! isochron/isochronref16.In -/
def m_isochronref16_In_l1 (p9151 : (List Int)) (p9153 : Int) (rec9178 : Int → R Bool) (s9170 : Int) : R Bool :=
  if (decide (s9170 < (p9151.length : Int))) then (bindR (idx p9151 s9170) fun e9184 =>
  if (decide (e9184 = p9153)) then (.ok true)
  else (rec9178 (w64 (s9170 + 1))))
  else (.ok false)
def m_isochronref16_In (p9151 : (List Int)) (p9153 : Int) : R Bool :=
  loopM (m_isochronref16_In_l1 p9151 p9153) LL 0

/-! isochron/isochronref16.Reach -/
def m_isochronref16_Reach_l1 (p10342 : ApiTopo) (p10346 : (List Int)) (rec11237 : ((List Bool) × Int) → R (List Bool)) (s10944 : (List Bool) × Int) (rec11458 : ((List Bool) × Int) → R (List Bool)) (s11386 : (List Bool) × Int) : R (List Bool) :=
  if (decide (s11386.2 < (p10342.Links.length : Int))) then (bindR (idx p10342.Links s11386.2) fun e11464 =>
  bindR (m_isochronref16_In p10346 (s11386.2)) fun e11473 =>
  sh (fun (s11486 : (List Bool) × Bool) => (sh (fun (s11503 : (List Bool)) => (rec11458 (s11503, (w64 (s11386.2 + 1))))) fun j11507 =>
  (if s11486.2 then (bindR (idx s11486.1 e11464.A) fun e11509 =>
  bindR (idx (s11486.1.set (e11464.A).toNat true) e11464.B) fun e11515 =>
  j11507 ((s11486.1.set (e11464.A).toNat true).set (e11464.B).toNat true))
  else (j11507 s11486.1)))) fun j11521 =>
  (if (!e11473) then (bindR (idx s11386.1 e11464.A) fun e11524 =>
  if e11524 then (j11521 (s11386.1, true))
  else (bindR (idx s11386.1 e11464.B) fun e11528 =>
  j11521 (s11386.1, e11528)))
  else (j11521 (s11386.1, false))))
  else (rec11237 (s11386.1, (w64 (s10944.2 + 1))))
def m_isochronref16_Reach_l2 (p10342 : ApiTopo) (p10346 : (List Int)) (rec11237 : ((List Bool) × Int) → R (List Bool)) (s10944 : (List Bool) × Int) : R (List Bool) :=
  if (decide (s10944.2 < p10342.Nodes)) then (loopM (m_isochronref16_Reach_l1 p10342 p10346 rec11237 s10944) LL (s10944.1, 0))
  else (.ok (s10944.1))
def m_isochronref16_Reach (p10342 : ApiTopo) (p10345 : Int) (p10346 : (List Int)) : R (List Bool) :=
  bindR (must (decide (0 ≤ p10342.Nodes ∧ p10342.Nodes ≤ 1000000000))) fun _ =>
  bindR (idx (List.replicate (p10342.Nodes).toNat false) p10345) fun e10354 =>
  loopM (m_isochronref16_Reach_l2 p10342 p10346) LL (((List.replicate (p10342.Nodes).toNat false).set (p10345).toNat true), 0)

/-! isochron/isochronref16.Joins -/
def m_isochronref16_Joins (p11724 : ApiLink) (p11725 : Int) (p11726 : Int) : R Bool :=
  sh ((decide (p11724.A = p11725)) && (decide (p11724.B = p11726))) fun (s11732 : Bool) =>
  (sh (s11732 || ((decide (p11724.A = p11726)) && (decide (p11724.B = p11725)))) fun (s11736 : Bool) =>
  (.ok s11736))

/-! isochron/isochronref16.Right -/
def m_isochronref16_Right_l1 (e12350 : ApiLink) (p8913 : ApiTopo) (rec12344 : ((List Int) × Int) → R Bool) (s12032 : (List Int) × Int) (rec12454 : Int → R Bool) (s12424 : Int) : R Bool :=
  if (decide (s12424 < s12032.2)) then (bindR (idx p8913.Links s12424) fun e12460 =>
  bindR (m_isochronref16_Joins e12460 (e12350.A) (e12350.B)) fun e12463 =>
  if e12463 then (.ok false)
  else (rec12454 (w64 (s12424 + 1))))
  else (bindR (idx s12032.1 e12350.A) fun e12468 =>
  bindR (idx s12032.1 e12350.A) fun e12471 =>
  bindR (idx (s12032.1.set (e12350.A).toNat (w64 (e12468 + 1))) e12350.B) fun e12477 =>
  bindR (idx (s12032.1.set (e12350.A).toNat (w64 (e12468 + 1))) e12350.B) fun e12480 =>
  rec12344 (((s12032.1.set (e12350.A).toNat (w64 (e12468 + 1))).set (e12350.B).toNat (w64 (e12477 + 1))), (w64 (s12032.2 + 1))))
def m_isochronref16_Right_l2 (p8913 : ApiTopo) (rec12616 : ((List Int) × (List Bool) × Int) → R Bool) (s12575 : (List Int) × (List Bool) × Int) : R Bool :=
  if (decide (s12575.2.2 < p8913.Nodes)) then (bindR (idx s12575.2.1 s12575.2.2) fun e12622 =>
  sh (fun (s12638 : (List Int) × Bool) => (if s12638.2 then (.ok false)
  else (rec12616 (s12638.1, s12575.2.1, (w64 (s12575.2.2 + 1)))))) fun j12643 =>
  (if (!e12622) then (j12643 (s12575.1, true))
  else (bindR (idx p8913.Station s12575.2.2) fun e12646 =>
  if e12646 then (bindR (idx s12575.1 s12575.2.2) fun e12650 =>
  if (decide (e12650 < 1)) then (j12643 (s12575.1, true))
  else (bindR (idx s12575.1 s12575.2.2) fun e12654 =>
  j12643 (s12575.1, (decide (2 < e12654)))))
  else (j12643 (s12575.1, false)))))
  else (.ok true)
def m_isochronref16_Right_l3 (p8913 : ApiTopo) (rec12344 : ((List Int) × Int) → R Bool) (s12032 : (List Int) × Int) : R Bool :=
  if (decide (s12032.2 < (p8913.Links.length : Int))) then (bindR (idx p8913.Links s12032.2) fun e12350 =>
  bindR (m_isochronref16_link p8913 e12350) fun e12359 =>
  if (!e12359) then (.ok false)
  else (loopM (m_isochronref16_Right_l1 e12350 p8913 rec12344 s12032) LL 0))
  else (bindR (m_isochronref16_Reach p8913 0 ([])) fun e12486 =>
  loopM (m_isochronref16_Right_l2 p8913) LL (s12032.1, e12486, 0))
def m_isochronref16_Right (p8913 : ApiTopo) : R Bool :=
  sh ((decide (p8913.Nodes < 2)) || (decide (12 < p8913.Nodes))) fun (s8921 : Bool) =>
  (sh (s8921 || (decide ((p8913.Station.length : Int) ≠ p8913.Nodes))) fun (s8925 : Bool) =>
  (sh (s8925 || (decide (24 < (p8913.Links.length : Int)))) fun (s8929 : Bool) =>
  (if s8929 then (.ok false)
  else (bindR (must (decide (0 ≤ p8913.Nodes ∧ p8913.Nodes ≤ 1000000000))) fun _ =>
  loopM (m_isochronref16_Right_l3 p8913) LL ((List.replicate (p8913.Nodes).toNat 0), 0)))))

/-! isochron/isochronlaw16.TopoReaches -/
def m_isochronlaw16_TopoReaches_l1 (e8890 : ApiTopo) (e8904 : ((List Bool) × Int)) (p4 : Int) (p5 : (List Int)) (rec12925 : (Bool × Int) → R Bool) (s12844 : Bool × Int) : R Bool :=
  if (decide (s12844.2 < ((([] : List Int) ++ (p5.take ((min (p5.length : Int) 40)).toNat)).length : Int))) then (bindR (idx (([] : List Int) ++ (p5.take ((min (p5.length : Int) 40)).toNat)) s12844.2) fun e12931 =>
  sh (s12844.1 || (decide (e12931 < 0))) fun (s12935 : Bool) =>
  (sh (s12935 || (decide ((e8890.Links.length : Int) ≤ e12931))) fun (s12939 : Bool) =>
  (rec12925 (s12939, (w64 (s12844.2 + 1))))))
  else (if s12844.1 then (sh ((decide (e8904.2 = 2)) && (decide ((e8904.1.length : Int) = 0))) fun (s12950 : Bool) =>
  (.ok s12950))
  else (sh (fun (s12979 : Bool) => (.ok s12979)) fun j12984 =>
  (if (decide (e8904.2 = 0)) then (bindR (m_isochronref16_Reach e8890 p4 ((([] : List Int) ++ (p5.take ((min (p5.length : Int) 40)).toNat)))) fun e12987 =>
  bindR (m_slices_Equal_bool_bool (e8904.1) e12987) fun e13004 =>
  j12984 e13004)
  else (j12984 false))))
def m_isochronlaw16_TopoReaches (p1 : ApiTopo) (p4 : Int) (p5 : (List Int)) : R Bool :=
  bindR (m_isochronlaw16_wakes) fun e8841 =>
  if (!e8841) then (.ok false)
  else (bindR (must (decide (0 ≤ (min (p5.length : Int) 40) ∧ (min (p5.length : Int) 40) ≤ (p5.length : Int)))) fun _ =>
  bindR (m_isochronlaw16_few p1) fun e8890 =>
  bindR (must (okLen (([] : List Int).length + (p5.take ((min (p5.length : Int) 40)).toNat).length))) fun _ =>
  bindR (m_topo_Reach e8890 p4 ((([] : List Int) ++ (p5.take ((min (p5.length : Int) 40)).toNat)))) fun e8904 =>
  bindR (m_isochronref16_Right e8890) fun e12666 =>
  if (!e12666) then (sh ((decide (e8904.2 = 260)) && (decide ((e8904.1.length : Int) = 0))) fun (s12672 : Bool) =>
  (.ok s12672))
  else (sh ((decide (p4 < 0)) || (decide (e8890.Nodes ≤ p4))) fun (s12679 : Bool) =>
  (loopM (m_isochronlaw16_TopoReaches_l1 e8890 e8904 p4 p5) LL (s12679, 0))))
end Go.AM
